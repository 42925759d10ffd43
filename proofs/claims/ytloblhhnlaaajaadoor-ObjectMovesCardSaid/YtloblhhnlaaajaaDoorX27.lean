/- Slices of the world's memory; laws that answer true and leave their arguments. -/
import Derived.Test.YtloblhhnlaaajaaDoorX12
import Derived.Deep.Slices
import Derived.Carry
import Derived.OpenShut
import Derived.SizedLaws
import Derived.ChangeMaps5
import Derived.Test.YtloblhhnlaaajaaDoorX15
import Derived.Test.YtloblhhnlaaajaaDoorX24
import Derived.Test.YtloblhhnlaaajaaDoorX26
import Derived.Test.YtloblhhnlaaajaaDoorChecked
import Derived.Test.YtloblhhnlaaajaaDoorRows
import Derived.WalkKit
import Derived.ProofKit
import Derived.Deep.DeepHandedRow
set_option linter.unusedVariables false
set_option linter.unusedSimpArgs false
set_option linter.defProp false
namespace Go.Ev
open Go Go.ChangeShapes Go.RowKit

theorem takeW {E : Env} {W : World} (hg : E.globs = gW W) {a : Addr} {vs : List V} (h : ∀ i (hi : i < vs.length), ∃ v, W.cell? (a.add i) = some v ∧ (∀ k, absV k v = vs[i]) ∧ (vs[i]).one = true) : takeG E a vs.length = some vs := by
 rcases Nat.eq_zero_or_pos vs.length with h0 | h0
 ·have : vs = [] := by simpa using h0
  subst this; rfl
 ·obtain ⟨v0, c0, _, _⟩ := h 0 h0
  have e0 : a.add 0 = a := by simp [Addr.add]
  rw [e0] at c0
  obtain ⟨hs, cs, hcs, k0, hk0⟩ := cellW c0
  have hcell : ∀ i (hi : i < vs.length), cs[a.off + i]? = some vs[i] := fun i hi => by
   obtain ⟨v, c, q, _⟩ := h i hi
   obtain ⟨_, cs', hcs', k, hk⟩ := cellW c
   have hb : (a.add i).block = a.block := by unfold Addr.add; split <;> rfl
   have ho : (a.add i).off = a.off + i := by unfold Addr.add; split <;> simp_all
   rw [hb, hcs] at hcs'
   injection hcs' with hcs'
   subst hcs'
   rw [ho] at hk
   rw [hk, q]
  have hl : (cs.drop a.off).take vs.length = vs := by
   apply List.ext_getElem?
   intro i
   rw [List.getElem?_take]
   split
   ·rename_i hi
    rw [List.getElem?_drop, hcell i hi, List.getElem?_eq_getElem hi]
   ·rename_i hi
    rw [List.getElem?_eq_none (by omega)]
  have hone : vs.all V.one = true := by
   rw [List.all_eq_true]
   intro x hx
   obtain ⟨i, hi, rfl⟩ := List.getElem_of_mem hx
   exact (h i hi).choose_spec.2.2
  unfold takeG
  split
  ·omega
  ·rw [hs]
   simp only
   rw [hg, hcs]
   simp only
   have := knownL_mk (k := vs.length) (l := (cs.drop a.off).take vs.length) (by rw [hl]) (by rw [hl]; exact hone)
   rw [this, hl]

theorem slW {E : Env} {W : World} (hg : E.globs = gW W) {h : H} {a : Addr} {n c sz : Nat} {vs : List V} (hl : vs.length = n * sz) (hnc : n ≤ c)
  (hc : ∀ i (hi : i < vs.length), ∃ v, W.cell? (a.add i) = some v ∧ (∀ k, absV k v = vs[i]) ∧ (vs[i]).one = true) : Sl E h sz (.gsl a n c) n vs := by
 refine ⟨rfl, ?_, (fun _ e => by cases e), (fun _ _ _ _ e => by cases e), (fun a m c e => by injection e with _ e1 e2; omega)⟩
 simp only [srcCells, ble_true (Nat.le_refl n), cond_true]
 rw [← hl]
 exact takeW hg hc

theorem conc_gsl' {ρ : Rho} {μ : Mu} {a : Addr} {n c : Nat} (h : n ≤ c) : conc ρ μ (.gsl a n c) = some (.slice (some a) n c) := by
 simp only [conc, if_pos h]
theorem absV_gsl {k : Nat} {a : Addr} {n c : Nat} (h : n ≤ c) : absV k (.slice (some a) n c) = .gsl a n c := by
 simp only [absV, if_pos h]

section
variable {H : Type} {enc : TypeId × Value → H} {P : Program}

def Wts (P : Program) (t : TypeId) (d : DataW H) : Prop := ∀ n ∈ d.weights P t, n ≤ reachBytes
theorem wts_each {ts : List TypeId} {ds : List (DataW H)} (h : (DataW.weightsEach P ts ds).all (· ≤ reachBytes) = true) {j : Nat} {t : TypeId} {d : DataW H} (ht : ts[j]? = some t) (hd : ds[j]? = some d) : Wts P t d := fun n hn => by
 have := List.all_eq_true.1 h _ (DataW.weights_mem_each ht hd n hn)
 simpa using this
theorem wts_slice {t e : TypeId} {xs sp : List (DataW H)} (h : Wts P t (.slice xs sp)) (hu : P.underlying t = some (.slice e)) : (xs.length + sp.length) * P.bytesOf e ≤ reachBytes :=
 h _ (by simp [DataW.weights, hu])
theorem weightsAll_mem {e : TypeId} : ∀ {xs : List (DataW H)} {d : DataW H}, d ∈ xs → ∀ n ∈ d.weights P e, n ∈ DataW.weightsAll P e xs
 | x :: xs, d, h, n, hn => by
  simp only [DataW.weightsAll, List.mem_append]
  rcases List.mem_cons.1 h with rfl | h
  ·exact .inl hn
  ·exact .inr (weightsAll_mem h n hn)
theorem wts_elem {t e : TypeId} {xs sp : List (DataW H)} (h : Wts P t (.slice xs sp)) (hu : P.underlying t = some (.slice e)) {d : DataW H} (hd : d ∈ xs) : Wts P e d := fun n hn =>
 h n (by simp only [DataW.weights, hu, List.mem_cons, List.mem_append]; exact .inr (.inl (weightsAll_mem hd n hn)))
theorem wts_field {t : TypeId} {fs : Array Field} {ds : List (DataW H)} (h : Wts P t (.agg ds)) (hu : P.underlying t = some (.struct fs)) {j : Nat} {u : TypeId} {d : DataW H} (hj : (fs.toList.map (·.type))[j]? = some u) (hd : ds[j]? = some d) : Wts P u d := fun n hn =>
 h n (by simp only [DataW.weights, hu]; exact DataW.weights_mem_each hj hd n hn)
theorem reach_eq : reachBytes = 140737488351232 := by decide

structure AbsC (c : Value) (v : V) : Prop where
 abs : ∀ k, absV k c = v
 one : v.one = true
 conc : ∀ (ρ : Rho) (μ : Mu), Ev.conc ρ μ v = some c
theorem AbsC.int {k : IntKind} {n : Int} : AbsC (.int k n) (.int k n) := ⟨fun _ => rfl, rfl, fun _ _ => rfl⟩
theorem AbsC.bool {b : Bool} : AbsC (.bool b) (.bool b) := ⟨fun _ => rfl, rfl, fun _ _ => rfl⟩
theorem AbsC.str {s : ByteArray} : AbsC (.string s) (.str s.data.toList) := ⟨fun _ => rfl, rfl, fun _ _ => rfl⟩
theorem AbsC.nils : AbsC (.slice none 0 0) .nils := ⟨fun _ => rfl, rfl, fun _ _ => rfl⟩
theorem AbsC.gsl {a : Addr} {n c : Nat} (h : n ≤ c) : AbsC (.slice (some a) n c) (.gsl a n c) := ⟨fun _ => absV_gsl h, rfl, fun _ _ => conc_gsl' h⟩

theorem flatMap_get {α : Type} {f : α → List V} {sz : Nat} : ∀ {L : List α}, (∀ q ∈ L, (f q).length = sz) → ∀ {i j : Nat}, j < sz → (L.flatMap f)[i * sz + j]? = L[i]?.bind fun q => (f q)[j]?
 | [], _, i, j, _ => by simp
 | q :: L, h, 0, j, hj => by
  have h0 := h q (List.mem_cons_self ..)
  simp only [List.flatMap_cons, Nat.zero_mul, Nat.zero_add, List.getElem?_cons_zero, Option.bind_some]
  rw [List.getElem?_append_left (by omega)]
 | q :: L, h, i + 1, j, hj => by
  have h0 := h q (List.mem_cons_self ..)
  have := flatMap_get (L := L) (fun x hx => h x (List.mem_cons_of_mem _ hx)) (i := i) hj
  simp only [List.flatMap_cons, List.getElem?_cons_succ]
  rw [List.getElem?_append_right (by rw [Nat.add_mul]; omega), h0, show (i + 1) * sz + j - sz = i * sz + j by rw [Nat.add_mul]; omega]
  exact this
theorem flatMap_len {α : Type} {f : α → List V} {sz : Nat} : ∀ {L : List α}, (∀ q ∈ L, (f q).length = sz) → (L.flatMap f).length = L.length * sz
 | [], _ => by simp
 | q :: L, h => by
  have h0 := h q (List.mem_cons_self ..)
  have := flatMap_len (L := L) (fun x hx => h x (List.mem_cons_of_mem _ hx))
  simp only [List.flatMap_cons, List.length_append, List.length_cons]
  rw [Nat.add_mul]; omega
theorem list_of {α : Type} {G : Nat → α → Prop} : ∀ (n : Nat), (∀ i, i < n → ∃ q, G i q) → ∃ L : List α, L.length = n ∧ ∀ (i : Nat) q, L[i]? = some q → G i q
 | 0, _ => ⟨[], rfl, fun i q h => by simp at h⟩
 | n + 1, h => by
  obtain ⟨L, h1, h2⟩ := list_of n fun i hi => h i (by omega)
  obtain ⟨q, hq⟩ := h n (by omega)
  refine ⟨L ++ [q], by simp [h1], fun i x hx => ?_⟩
  by_cases hi : i < n
  ·rw [List.getElem?_append_left (by omega)] at hx; exact h2 i x hx
  ·rw [List.getElem?_append_right (by omega)] at hx
   have e : i - L.length = 0 := by
    rcases Nat.eq_zero_or_pos (i - L.length) with e | e
    ·exact e
    ·rw [List.getElem?_eq_none (by simp; omega)] at hx; cases hx
   rw [e] at hx
   injection hx with hx
   subst hx
   have : i = n := by omega
   rw [this]; exact hq

theorem sliceW {α : Type} {E : Env} {W : World} (hg : E.globs = gW W) {base : Nat} {sp : Nat → Bool} {held : Bool} {t e : TypeId} {sz : Nat} (ht : P.underlying t = some (.slice e)) (hc : P.cellsOf e = sz) (hsz : 0 < sz) {f : α → List V} {Pr : α → Prop}
  (hel : ∀ n cs' y, DataW.trod enc P W base sp held n e cs' = some y → Wts P e y.1 → ∃ q, Pr q ∧ (f q).length = sz ∧ ∀ (j : Nat) c, cs'[j]? = some c → ∃ v, (f q)[j]? = some v ∧ AbsC c v)
  {fuel : Nat} {cs : List Value} {x : DataW H × List MemPlace} (h : DataW.trod enc P W base sp held fuel t cs = some x) (hw : Wts P t x.1) :
  ∃ c v, ∃ L : List α, cs = [c] ∧ AbsC c v ∧ (∀ q ∈ L, Pr q) ∧ L.length * P.bytesOf e ≤ reachBytes ∧ (∀ hp, Sl E hp sz v L.length (L.flatMap f)) ∧ ∀ b o n k, v ≠ .slice b o n k := by
 rcases Go.Deep.open_slice ht h with ⟨rfl, rfl⟩ | ⟨a, len, cap, m, n, D, Pl, rfl, hb, hl, hm, hmm, rfl, hx⟩
 ·exact ⟨_, .nils, [], rfl, AbsC.nils, (fun _ h => by cases h), by simp, fun hp => Sl.nil, fun _ _ _ _ h => by cases h⟩
 ·rw [hc] at hx
  have hlm : len ≤ m := by rw [hmm]; split <;> omega
  obtain ⟨L, hL, hG⟩ := list_of (G := fun i q => Pr q ∧ (f q).length = sz ∧ ∀ j, j < sz → ∃ c v, W.cell? (a.add (i * sz + j)) = some c ∧ (f q)[j]? = some v ∧ AbsC c v) len (fun i hi => by
   obtain ⟨cs', h1, h2⟩ := hx i (by omega)
   obtain ⟨_, hlen, hcell⟩ := World.cells?_some h1
   obtain ⟨q, q1, q2, q3⟩ := hel n cs' _ h2 (wts_elem hw ht (List.mem_map.2 ⟨i, List.mem_range.2 hi, rfl⟩))
   refine ⟨q, q1, q2, fun j hj => ?_⟩
   have hj' : j < cs'.length := by omega
   obtain ⟨v, v1, v2⟩ := q3 j cs'[j] (List.getElem?_eq_getElem hj')
   refine ⟨cs'[j], v, ?_, v1, v2⟩
   have := hcell j (by omega)
   rw [Addr.add_add, List.getElem?_eq_getElem hj'] at this
   exact this)
  have hall : ∀ q ∈ L, Pr q ∧ (f q).length = sz := fun q hq => by
   obtain ⟨i, hi⟩ := List.getElem?_of_mem hq
   exact ⟨(hG i q hi).1, (hG i q hi).2.1⟩
  have hfl := flatMap_len (L := L) fun q hq => (hall q hq).2
  refine ⟨_, .gsl a len cap, L, rfl, AbsC.gsl hl, fun q hq => (hall q hq).1, ?_, fun hp => ?_, fun _ _ _ _ h => by cases h⟩
  ·have := wts_slice hw ht
   simp only [List.length_map, List.length_range] at this
   rw [hL]
   exact Nat.le_trans (Nat.mul_le_mul_right _ (Nat.le_add_right _ _)) this
  ·have hlen := hL
   subst hlen
   refine slW hg hfl hl fun i hi => ?_
   rw [hfl] at hi
   have e1 : i = i / sz * sz + i % sz := by rw [Nat.mul_comm]; exact (Nat.div_add_mod i sz).symm
   have hq : i / sz < L.length := Nat.div_lt_of_lt_mul (by rw [Nat.mul_comm]; exact hi)
   have hr : i % sz < sz := Nat.mod_lt _ hsz
   obtain ⟨_, _, g3⟩ := hG (i / sz) L[i / sz] (List.getElem?_eq_getElem hq)
   obtain ⟨c, v, c1, c2, c3⟩ := g3 (i % sz) hr
   have hv : (L.flatMap f)[i]? = some v := by
    rw [e1, flatMap_get (fun q hq => (hall q hq).2) hr, List.getElem?_eq_getElem hq]
    exact c2
   rw [← e1] at c1
   refine ⟨c, c1, fun k => ?_, ?_⟩
   ·have := List.getElem?_eq_getElem (l := L.flatMap f) (i := i) (by rw [hfl]; exact hi)
    rw [hv] at this
    injection this with this
    rw [← this]; exact c3.abs k
   ·have := List.getElem?_eq_getElem (l := L.flatMap f) (i := i) (by rw [hfl]; exact hi)
    rw [hv] at this
    injection this with this
    rw [← this]; exact c3.one

theorem fld {W : World} {base : Nat} {sp : Nat → Bool} {held : Bool} {m : Nat} {cs : List Value} {xs : List (DataW H × List MemPlace)} {fs : Array Field} (hi : ∀ (i : Nat) (f : Field), fs[i]? = some f → DataW.trod enc P W base sp held m f.type ((cs.drop f.offset).take (P.cellsOf f.type)) = xs[i]?)
  (i t o : Nat) {n : Nat} {f : Field} (hf : fs[i]? = some f) (ht : f.type = t) (ho : f.offset = o) (hc : P.cellsOf t = n) : DataW.trod enc P W base sp held m t ((cs.drop o).take n) = xs[i]? := by
 subst ht ho hc
 exact hi i f hf

theorem elem_int {k : IntKind} {W : World} {base : Nat} {sp : Nat → Bool} {held : Bool} {e : TypeId} (he : P.underlying e = some (.int k)) (n : Nat) (cs' : List Value) (y : DataW H × List MemPlace) (h : DataW.trod enc P W base sp held n e cs' = some y) :
  ∃ q : Int, (Lit.int k q).wf = true ∧ ([V.int k q] : List V).length = 1 ∧ ∀ (j : Nat) c, cs'[j]? = some c → ∃ v, ([V.int k q] : List V)[j]? = some v ∧ AbsC c v := by
 obtain ⟨q, rfl, _, hq⟩ := DataW.trod_int he h
 refine ⟨q, hq, rfl, fun j c hj => ?_⟩
 cases j with
 | zero => injection hj with hj; subst hj; exact ⟨_, rfl, AbsC.int⟩
 | succ j => simp at hj

theorem wf_u8 {q : Int} (h : (Lit.int .u8 q).wf = true) : 0 ≤ q ∧ q < 256 := by
 have e1 : IntKind.u8.min = 0 := rfl
 have e2 : IntKind.u8.max = 255 := rfl
 simp only [Lit.wf, e1, e2, Bool.and_eq_true, decide_eq_true_eq] at h
 omega
theorem wf_i64 {q : Int} (h : (Lit.int .i64 q).wf = true) : -9223372036854775808 ≤ q ∧ q ≤ 9223372036854775807 := by
 have e1 : IntKind.i64.min = -9223372036854775808 := rfl
 have e2 : IntKind.i64.max = 9223372036854775807 := rfl
 simp only [Lit.wf, e1, e2, Bool.and_eq_true, decide_eq_true_eq] at h
 omega
theorem wf_u16 {q : Int} (h : (Lit.int .u16 q).wf = true) : 0 ≤ q ∧ q < 65536 := by
 have e1 : IntKind.u16.min = 0 := rfl
 have e2 : IntKind.u16.max = 65535 := rfl
 simp only [Lit.wf, e1, e2, Bool.and_eq_true, decide_eq_true_eq] at h
 omega

theorem bytesW {E : Env} {W : World} (hg : E.globs = gW W) {base : Nat} {sp : Nat → Bool} {held : Bool} {t e : TypeId} (ht : P.underlying t = some (.slice e)) (he : P.underlying e = some (.int .u8)) (hc : P.cellsOf e = 1)
  {fuel : Nat} {cs : List Value} {x : DataW H × List MemPlace} (h : DataW.trod enc P W base sp held fuel t cs = some x) (hw : Wts P t x.1) :
  ∃ c v, ∃ xs : List UInt8, cs = [c] ∧ AbsC c v ∧ xs.length * P.bytesOf e ≤ reachBytes ∧ (∀ hp, Sl E hp 1 v xs.length (xs.map fun c => V.int .u8 c.toNat)) ∧ ∀ b o n k, v ≠ .slice b o n k := by
 obtain ⟨c, v, L, h1, h2, _, h4, h5, h6⟩ := sliceW (α := UInt8) (Pr := fun _ => True) (f := fun c => [V.int .u8 c.toNat]) hg ht hc (by decide) (fun n cs' y hy _ => by
  obtain ⟨q, q1, q2, q3⟩ := elem_int he n cs' y hy
  have hq := wf_u8 q1
  have e : (((UInt8.ofNat q.toNat).toNat : Nat) : Int) = q := by rw [UInt8.toNat_ofNat']; omega
  exact ⟨UInt8.ofNat q.toNat, trivial, rfl, fun j c hj => by simp only [e]; exact q3 j c hj⟩) h hw
 refine ⟨c, v, L, h1, h2, h4, fun hp => ?_, h6⟩
 have := h5 hp
 rwa [← List.map_eq_flatMap] at this

theorem calls_of {E : Env} {ρ : Rho} (hE : EnvOk P E) (hp : Plain ρ) {f : Nat} {args : List V} {A : List Value} (hf : (E.fns.get f).isSome = true) (hw : WF E f args h0 fun v _ => v = .bool true) (ha : concL ρ (fun _ => none) args = some A) {w : World} (hg : Globs E ρ w) :
  Calls P f A.toArray w fun e w' => e = .returned (.bool true) ∧ Below w.heap.size w w' := by
 obtain ⟨N, l, h1, h2⟩ := hw
 cases N with
 | zero => cases h1
 | succ n =>
  refine calls_true hE hp n f hf ?_ ha hg
  unfold allTrue
  rw [h1]
  simp only [List.all_eq_true]
  intro x hx
  rw [h2 x hx]; rfl
theorem trodAll_stays (hl : laidOutB P = true) {W W' : World} {sp : Nat → Bool} (hsame : ∀ b, b < W.heap.size → W'.heap[b]? = W.heap[b]?) : ∀ {ts : List TypeId} {vs : List Value} {ds : List (DataW H)} {ps : List MemPlace},
  (∀ t ∈ ts, P.readableRec t = true ∧ t < P.types.size) → DataW.TrodAll enc P W 0 (fun _ => true) true ts vs ds ps → (∀ p ∈ ps, sp p.block = true) → (∀ p ∈ ps, p.block < W.heap.size) → (hb : Below W.heap.size W W') → DataW.TrodAll enc P W' 0 sp true ts vs ds ps
 | [], vs, ds, ps, _, h, _, _, _ => by
  obtain ⟨rfl, rfl, rfl⟩ := trodAll_nil h
  exact trodAll_mk0
 | t :: ts, vs, ds, ps, hr, h, hs, hp, hb => by
  obtain ⟨v, vs1, d, ds1, a, b, rfl, rfl, rfl, h1, h2⟩ := trodAll_cons h
  obtain ⟨r1, r2⟩ := hr t (List.mem_cons_self ..)
  have hp1 : ∀ p ∈ a, p.block < W.heap.size := fun p q => hp p (List.mem_append.2 (.inl q))
  have hp2 : ∀ p ∈ b, p.block < W.heap.size := fun p q => hp p (List.mem_append.2 (.inr q))
  refine ⟨a, b, WideElems.Trod_stays hl r1 r2 h1 (fun x hx => hb.same (hp1 x hx)) (fun x hx => hs x (List.mem_append.2 (.inl hx))), ?_, rfl⟩
  exact trodAll_stays hl hsame (fun t ht => hr t (List.mem_cons_of_mem _ ht)) h2 (fun p q => hs p (List.mem_append.2 (.inr q))) hp2 hb

theorem post_true {f : Func} {s : ChangeSpec} {apart fresh handsOn again : Bool} {W W' : World} {args : Array Value} {ds gs : List (DataW H)} {before : List MemPlace} {tb : TypeId}
  (hl : laidOutB P = true) (hr : ∀ t ∈ f.params.toList, P.readableRec t = true ∧ t < P.types.size) (hvar : s.vars = []) (hrt : f.resultTypes = #[tb]) (htb : P.underlying tb = some .bool)
  (hW : DataW.Whole enc P f.params.toList s.vars apart W args.toList ds gs before) (hfn : s.fn H (ds ++ gs) = { results := [.lit (.bool true)], args := ds })
  (hb : Below W.heap.size W W') : s.post enc P f apart fresh handsOn again W args (.bool true) W' := by
 have hlt := hW.lt
 have hW' := hW
 obtain ⟨p, q, hA, hV, rfl, hz, hn⟩ := hW'
 have hV0 : q = [] := by rw [hvar] at hV; exact (trodVars_none hV).2
 subst hV0
 rw [List.append_nil] at *
 have hargs : ∀ sp : Nat → Bool, (∀ x ∈ p, sp x.block = true) → DataW.TrodAll enc P W' 0 sp true f.params.toList args.toList (s.fn H (ds ++ gs)).args p := fun sp hs => by
  rw [hfn]
  exact trodAll_stays hl hb.block hr hA hs hlt hb
 have hvars : ∀ sp : Nat → Bool, DataW.TrodVars enc P W' sp s.vars (s.fn H (ds ++ gs)).vars [] := fun sp => by rw [hvar, hfn]; rfl
 have hres : ∀ (b : Nat) (sp : Nat → Bool) (hd : Bool), DataW.TrodAll enc P W' b sp hd f.resultTypes.toList ((Value.bool true).resultList f.resultTypes.size) (s.fn H (ds ++ gs)).results [] := fun b sp hd => by
  rw [hfn, hrt]; exact trodAll_cons_mk (shut_bool htb _) trodAll_mk0
 have hold : ∀ x ∈ p, (fun b => decide (b < W.heap.size)) x.block = true := fun x hx => by simpa using hlt x hx
 refine ⟨ds, gs, p, [], p, [], hW, hres _ _ _, hargs _ hold, hvars _, World.keptBut_mono (fun x hx => ⟨hx, ?_⟩) (hb.frame (· ∈ p)), fun _ => ?_⟩
 ·exact Or.inr (by simpa using hx)
 ·refine ⟨?_, _, _, ([] ++ p) ++ [], ⟨[] ++ p, [], trodAll_append (hargs _ (fun _ _ => rfl)) (hres _ _ _), hvars _, rfl, ?_, ?_⟩, ?_⟩
  ·exact ok_one hrt rfl (okWide_bool_mk htb _)
  ·intro b off hp
   have hp' : MemPlace.cell b off ∈ p := by simpa using hp
   rw [hb.frozen (hlt _ hp')]
   exact hz b off hp'
  ·intro ha
   simpa using hn ha
  ·intro x hx _
   simpa using hx
end
end Go.Ev

namespace Go.Proofs.OP
open Go Go.Ev Go.RowKit Go.ChangeShapes Go.WideShapes Go.ChangeAt
open Go.Proofs
open Nat (reduceLT reduceEqDiff)

theorem own : ownKnob Tryd.prog.godebug = none := by kernel_rfl
theorem laidOut : laidOutB Tryd.prog = true := by kernel_rfl
theorem cells2 : Tryd.prog.cellsOf 2 = 1 := by kernel_rfl
theorem cells3 : Tryd.prog.cellsOf 3 = 1 := by kernel_rfl
theorem cells4 : Tryd.prog.cellsOf 4 = 1 := by kernel_rfl
theorem cells5 : Tryd.prog.cellsOf 5 = 1 := by kernel_rfl
theorem cells9 : Tryd.prog.cellsOf 9 = 1 := by kernel_rfl
theorem cells27 : Tryd.prog.cellsOf 27 = 1 := by kernel_rfl
theorem cells30 : Tryd.prog.cellsOf 30 = 1 := by kernel_rfl
theorem cells67 : Tryd.prog.cellsOf 67 = 1 := by kernel_rfl
theorem cells68 : Tryd.prog.cellsOf 68 = 1 := by kernel_rfl
theorem cells70 : Tryd.prog.cellsOf 70 = 7 := by kernel_rfl
theorem cells127 : Tryd.prog.cellsOf 127 = 5 := by kernel_rfl
theorem cells132 : Tryd.prog.cellsOf 132 = 5 := by kernel_rfl
theorem cells184 : Tryd.prog.cellsOf 184 = 2 := by kernel_rfl
theorem cells185 : Tryd.prog.cellsOf 185 = 6 := by kernel_rfl
theorem bytes9 : Tryd.prog.bytesOf 9 = 16 := by kernel_rfl
theorem bytes127 : Tryd.prog.bytesOf 127 = 48 := by kernel_rfl
theorem bytes132 : Tryd.prog.bytesOf 132 = 40 := by kernel_rfl

theorem list5 {α : Type} {l : List α} (h : l.length = 5) : ∃ a b c d e, l = [a, b, c, d, e] := by
 match l, h with
 | [a, b, c, d, e], _ => exact ⟨a, b, c, d, e, rfl⟩
theorem list7 {α : Type} {l : List α} (h : l.length = 7) : ∃ a b c d e f i, l = [a, b, c, d, e, f, i] := by
 match l, h with
 | [a, b, c, d, e, f, i], _ => exact ⟨a, b, c, d, e, f, i, rfl⟩

section
variable {H : Type} {enc : TypeId × Value → H} {W : World} {base : Nat} {sp : Nat → Bool} {held : Bool}

theorem sym_in {n : Nat} {cs : List Value} {y : DataW H × List MemPlace} (h : DataW.trod enc Tryd.prog W base sp held n 132 cs = some y) (_ : Wts Tryd.prog 132 y.1) :
  ∃ q : SymD, (In64 q.sec ∧ In64 q.off) ∧ (symV q).length = 5 ∧ ∀ (j : Nat) c, cs[j]? = some c → ∃ v, (symV q)[j]? = some v ∧ AbsC c v := by
 obtain ⟨xs, m, rfl, rfl, hl, hn, hi⟩ := DataW.trod_struct Tryd.underlying132 h
 rw [cells132] at hl
 obtain ⟨c0, c1, c2, c3, c4, rfl⟩ := list5 hl
 obtain ⟨x0, x1, x2, x3, x4, rfl⟩ := list5 hn
 have i0 := fld hi 0 9 0 rfl rfl rfl cells9
 have i1 := fld hi 1 3 1 rfl rfl rfl cells3
 have i2 := fld hi 2 2 2 rfl rfl rfl cells2
 have i3 := fld hi 3 4 3 rfl rfl rfl cells4
 have i4 := fld hi 4 4 4 rfl rfl rfl cells4
 obtain ⟨nm, e0, _, _⟩ := DataW.trod_string Tryd.underlying9 (show DataW.trod enc Tryd.prog W base sp held m 9 [c0] = some x0 from i0)
 obtain ⟨a, e1, _, ha⟩ := DataW.trod_int Tryd.underlying3 (show DataW.trod enc Tryd.prog W base sp held m 3 [c1] = some x1 from i1)
 obtain ⟨b, e2, _, hb⟩ := DataW.trod_int Tryd.underlying2 (show DataW.trod enc Tryd.prog W base sp held m 2 [c2] = some x2 from i2)
 obtain ⟨d, e3, _⟩ := DataW.trod_bool Tryd.underlying4 (show DataW.trod enc Tryd.prog W base sp held m 4 [c3] = some x3 from i3)
 obtain ⟨e, e4, _⟩ := DataW.trod_bool Tryd.underlying4 (show DataW.trod enc Tryd.prog W base sp held m 4 [c4] = some x4 from i4)
 injection e0 with e0
 injection e1 with e1
 injection e2 with e2
 injection e3 with e3
 injection e4 with e4
 subst e0 e1 e2 e3 e4
 refine ⟨⟨nm.data.toList, a, b, d, e⟩, ⟨wf_i64 ha, wf_i64 hb⟩, rfl, fun j c hj => ?_⟩
 match j, hj with
 | 0, hj => injection hj with hj; subst hj; exact ⟨_, rfl, AbsC.str⟩
 | 1, hj => injection hj with hj; subst hj; exact ⟨_, rfl, AbsC.int⟩
 | 2, hj => injection hj with hj; subst hj; exact ⟨_, rfl, AbsC.int⟩
 | 3, hj => injection hj with hj; subst hj; exact ⟨_, rfl, AbsC.bool⟩
 | 4, hj => injection hj with hj; subst hj; exact ⟨_, rfl, AbsC.bool⟩
 | j + 5, hj => simp at hj
theorem rel_in {n : Nat} {cs : List Value} {y : DataW H × List MemPlace} (h : DataW.trod enc Tryd.prog W base sp held n 127 cs = some y) (_ : Wts Tryd.prog 127 y.1) :
  ∃ q : RelD, (In64 q.sec ∧ In64 q.off ∧ In64 q.kind ∧ In64 q.add) ∧ (relV q).length = 5 ∧ ∀ (j : Nat) c, cs[j]? = some c → ∃ v, (relV q)[j]? = some v ∧ AbsC c v := by
 obtain ⟨xs, m, rfl, rfl, hl, hn, hi⟩ := DataW.trod_struct Tryd.underlying127 h
 rw [cells127] at hl
 obtain ⟨c0, c1, c2, c3, c4, rfl⟩ := list5 hl
 obtain ⟨x0, x1, x2, x3, x4, rfl⟩ := list5 hn
 have i0 := fld hi 0 3 0 rfl rfl rfl cells3
 have i1 := fld hi 1 2 1 rfl rfl rfl cells2
 have i2 := fld hi 2 3 2 rfl rfl rfl cells3
 have i3 := fld hi 3 9 3 rfl rfl rfl cells9
 have i4 := fld hi 4 2 4 rfl rfl rfl cells2
 obtain ⟨a, e0, _, ha⟩ := DataW.trod_int Tryd.underlying3 (show DataW.trod enc Tryd.prog W base sp held m 3 [c0] = some x0 from i0)
 obtain ⟨b, e1, _, hb⟩ := DataW.trod_int Tryd.underlying2 (show DataW.trod enc Tryd.prog W base sp held m 2 [c1] = some x1 from i1)
 obtain ⟨d, e2, _, hd⟩ := DataW.trod_int Tryd.underlying3 (show DataW.trod enc Tryd.prog W base sp held m 3 [c2] = some x2 from i2)
 obtain ⟨nm, e3, _, _⟩ := DataW.trod_string Tryd.underlying9 (show DataW.trod enc Tryd.prog W base sp held m 9 [c3] = some x3 from i3)
 obtain ⟨e, e4, _, he⟩ := DataW.trod_int Tryd.underlying2 (show DataW.trod enc Tryd.prog W base sp held m 2 [c4] = some x4 from i4)
 injection e0 with e0
 injection e1 with e1
 injection e2 with e2
 injection e3 with e3
 injection e4 with e4
 subst e0 e1 e2 e3 e4
 refine ⟨⟨a, b, d, nm.data.toList, e⟩, ⟨wf_i64 ha, wf_i64 hb, wf_i64 hd, wf_i64 he⟩, rfl, fun j c hj => ?_⟩
 match j, hj with
 | 0, hj => injection hj with hj; subst hj; exact ⟨_, rfl, AbsC.int⟩
 | 1, hj => injection hj with hj; subst hj; exact ⟨_, rfl, AbsC.int⟩
 | 2, hj => injection hj with hj; subst hj; exact ⟨_, rfl, AbsC.int⟩
 | 3, hj => injection hj with hj; subst hj; exact ⟨_, rfl, AbsC.str⟩
 | 4, hj => injection hj with hj; subst hj; exact ⟨_, rfl, AbsC.int⟩
 | j + 5, hj => simp at hj
theorem str_in {n : Nat} {cs : List Value} {y : DataW H × List MemPlace} (h : DataW.trod enc Tryd.prog W base sp held n 9 cs = some y) (_ : Wts Tryd.prog 9 y.1) :
  ∃ q : List UInt8, True ∧ ([V.str q] : List V).length = 1 ∧ ∀ (j : Nat) c, cs[j]? = some c → ∃ v, ([V.str q] : List V)[j]? = some v ∧ AbsC c v := by
 obtain ⟨nm, rfl, _, _⟩ := DataW.trod_string Tryd.underlying9 h
 refine ⟨nm.data.toList, trivial, rfl, fun j c hj => ?_⟩
 cases j with
 | zero => injection hj with hj; subst hj; exact ⟨_, rfl, AbsC.str⟩
 | succ j => simp at hj

theorem pair_cells {fuel : Nat} {c0 c1 : Value} {b0 b1 : Bool} {y : DataW H × List MemPlace}
  (h : DataW.trod enc Tryd.prog W base sp held fuel 184 [c0, c1] = some y) (hy : y.1 = .agg [.lit (.bool b0), .lit (.bool b1)]) : c0 = .bool b0 ∧ c1 = .bool b1 := by
 obtain ⟨y0, y1, n, rfl, _, h0, h1⟩ := trod_struct2 Tryd.underlying184 h
 rw [cells4] at h0 h1
 obtain ⟨z0, e0, rfl⟩ := DataW.trod_bool Tryd.underlying4 h0
 obtain ⟨z1, e1, rfl⟩ := DataW.trod_bool Tryd.underlying4 h1
 simp only [DataW.agg.injEq, List.cons.injEq, DataW.lit.injEq, Lit.bool.injEq, and_true] at hy
 simp at e0 e1
 exact ⟨by rw [e0, hy.1], by rw [e1, hy.2]⟩
def flags : List Value := [.bool false, .bool false, .bool false, .bool true, .bool true, .bool false]
set_option maxRecDepth 100000 in
theorem values_cells {fuel : Nat} {cs : List Value} {p : List MemPlace}
  (h : DataW.trod enc Tryd.prog W base sp held fuel 185 cs = some (YtloblhhnlaaajaaDoor.Rows.laid_orpiment_object_values, p)) : cs = flags := by
 obtain ⟨xs, m, rfl, hx, hl, hn, hi⟩ := DataW.trod_array Tryd.underlying185 h
 rw [cells185] at hl
 have hd := congrArg Prod.fst hx
 simp only [YtloblhhnlaaajaaDoor.Rows.laid_orpiment_object_values, DataW.agg.injEq] at hd
 match cs, hl with
 | [c0, c1, c2, c3, c4, c5], _ =>
  match xs, hn with
  | [x0, x1, x2], _ =>
   simp only [List.map_cons, List.map_nil, List.cons.injEq, and_true] at hd
   have i0 := hi 0 (by omega)
   have i1 := hi 1 (by omega)
   have i2 := hi 2 (by omega)
   rw [cells184] at i0 i1 i2
   obtain ⟨rfl, rfl⟩ := pair_cells (b0 := false) (b1 := false) (by simpa using i0) hd.1.symm
   obtain ⟨rfl, rfl⟩ := pair_cells (b0 := false) (b1 := true) (by simpa using i1) hd.2.1.symm
   obtain ⟨rfl, rfl⟩ := pair_cells (b0 := true) (b1 := false) (by simpa using i2) hd.2.2.symm
   rfl
def mags : List Value := [.int .u8 79, .int .u8 66, .int .u8 74, .int .u8 49, .int .u8 73, .int .u8 77, .int .u8 71, .int .u8 49]
end
end Go.Proofs.OP
