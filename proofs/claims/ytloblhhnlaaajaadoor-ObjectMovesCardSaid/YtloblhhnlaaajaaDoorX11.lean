/- The world's memory, seen as memory that no one writes. -/
import Derived.Test.YtloblhhnlaaajaaDoorX10
set_option linter.unusedVariables false
set_option linter.unusedSimpArgs false
set_option linter.defProp false
namespace Go.Ev
open Go

def absV (k : Nat) : Value → V
 | .bool b => .bool b
 | .int j n => .int j n
 | .string s => .str s.data.toList
 | .pointer none => .nilp
 | .slice none 0 0 => .nils
 | .slice (some a) n c => if n ≤ c then .gsl a n c else .sym k
 | .agg _ => un
 | .tuple _ => un
 | _ => .sym k

theorem absV_conc {ρ : Rho} {μ : Mu} {k : Nat} {v : Value} (h1 : (absV k v).one = true) (hk : (∀ cs, v ≠ .agg cs) → (∀ vs, v ≠ .tuple vs) → ρ k = v) : conc ρ μ (absV k v) = some v := by
 have hp : (∀ cs, v ≠ .agg cs) ∧ (∀ vs, v ≠ .tuple vs) := by
  constructor <;> (rintro x rfl; simp [absV, un, V.one] at h1)
 have hk := hk hp.1 hp.2
 unfold absV
 split
 ·rfl
 ·rfl
 ·rfl
 ·rfl
 ·rfl
 ·split
  ·rename_i h; simp only [conc, if_pos h]
  ·simp only [conc, hk]
 ·exact absurd rfl (hp.1 _)
 ·exact absurd rfl (hp.2 _)
 ·simp only [conc]; rw [hk]

def osize : Obj → Nat
 | .cells arr _ _ => arr.size
 | _ => 0
def wide (W : World) : Nat := (W.heap.toList.map osize).sum + 1
theorem osize_lt {W : World} {g : Nat} {o : Obj} (h : W.heap[g]? = some o) : osize o < wide W := by
 have hm : o ∈ W.heap.toList := by
  rw [← Array.getElem?_toList] at h
  exact List.mem_of_getElem? h
 have : osize o ≤ (W.heap.toList.map osize).sum := by
  clear h
  generalize W.heap.toList = l at hm
  induction l with
  | nil => cases hm
  | cons x r ih =>
   simp only [List.map_cons, List.sum_cons]
   rcases List.mem_cons.1 hm with rfl | hm
   ·omega
   ·have := ih hm; omega
 unfold wide; omega

def absL (W : World) (g : Nat) : Nat → List Value → List V
 | _, [] => []
 | j, v :: r => absV (g * wide W + j) v :: absL W g (j + 1) r
theorem absL_get (W : World) (g : Nat) : ∀ (l : List Value) (j i : Nat), (absL W g j l)[i]? = l[i]?.map (absV (g * wide W + (j + i)))
 | [], j, i => by simp [absL]
 | v :: r, j, 0 => by simp [absL]
 | v :: r, j, i + 1 => by
  simp only [absL, List.getElem?_cons_succ]
  rw [absL_get W g r (j + 1) i, show j + 1 + i = j + (i + 1) by omega]

def rhoW (W : World) : Rho := fun k => match W.heap[k / wide W]? with
 | some (.cells arr _ _) => (match arr[k % wide W]? with
  | some (.agg _) => .bool false
  | some (.tuple _) => .bool false
  | some v => v
  | none => .bool false)
 | _ => .bool false
theorem rhoW_plain (W : World) : Plain (rhoW W) := by
 intro i
 have fb : (∀ cs : Array Value, Value.bool false ≠ .agg cs) ∧ (∀ vs : Array Value, Value.bool false ≠ .tuple vs) := by constructor <;> (intro _ h; cases h)
 unfold rhoW
 split
 ·split
  ·exact fb
  ·exact fb
  ·rename_i v h1 h2 h3
   exact ⟨fun cs h => h1 cs h, fun cs h => h2 cs h⟩
  ·exact fb
 ·exact fb
theorem rhoW_at {W : World} {g j : Nat} {arr : Array Value} {e : TypeId} {fz : Nat × Nat} {v : Value} (h : W.heap[g]? = some (.cells arr e fz)) (hj : arr[j]? = some v) (h1 : ∀ cs, v ≠ .agg cs) (h2 : ∀ vs, v ≠ .tuple vs) : rhoW W (g * wide W + j) = v := by
 have hlt : j < wide W := by
  have := osize_lt h
  have : j < arr.size := (Array.getElem?_eq_some_iff.1 hj).1
  simp only [osize] at *; omega
 have hpos : 0 < wide W := by omega
 have e1 : (g * wide W + j) / wide W = g := by
  rw [Nat.mul_comm, Nat.mul_add_div hpos, Nat.div_eq_of_lt hlt, Nat.add_zero]
 have e2 : (g * wide W + j) % wide W = j := by
  rw [Nat.mul_comm, Nat.mul_add_mod, Nat.mod_eq_of_lt hlt]
 unfold rhoW
 rw [e1, e2, h]
 simp only [hj]

def gN (W : World) : Nat → T (List V)
 | 0 => .lf
 | n + 1 => match W.heap[n]? with
  | some (.cells arr _ _) => (gN W n).set n (absL W n 0 arr.toList)
  | _ => gN W n
def gW (W : World) : T (List V) := gN W W.heap.size

theorem gN_get (W : World) : ∀ (n g : Nat), (gN W n).get g = if g < n then (match W.heap[g]? with | some (.cells arr _ _) => some (absL W g 0 arr.toList) | _ => none) else none
 | 0, g => by simp [gN, T.get_lf]
 | n + 1, g => by
  simp only [gN]
  by_cases e : g = n
  ·subst e
   split
   ·rename_i arr _ _ h; simp [T.get_set]
   ·rename_i h
    rw [gN_get W g g, if_neg (by omega), if_pos (by omega)]
  ·have : (g < n + 1) ↔ g < n := by omega
   split
   ·rw [T.get_set, if_neg e, gN_get W n g]; simp only [this]
   ·rw [gN_get W n g]; simp only [this]
theorem gW_get (W : World) (g : Nat) : (gW W).get g = match W.heap[g]? with | some (.cells arr _ _) => some (absL W g 0 arr.toList) | _ => none := by
 unfold gW
 rw [gN_get]
 split
 ·rfl
 ·rename_i h
  rw [Array.getElem?_eq_none (by omega)]

theorem globsW {E : Env} (W : World) : Globs { E with globs := gW W } (rhoW W) W := by
 intro g cs hg
 have hg : (gW W).get g = some cs := hg
 rw [gW_get] at hg
 split at hg
 ·rename_i arr e fz h
  injection hg with hg
  subst hg
  refine ⟨arr, e, fz, h, fun j v hj h1 => ?_⟩
  rw [absL_get] at hj
  obtain ⟨x, hx, rfl⟩ := Option.map_eq_some_iff.1 hj
  have hx' : arr[j]? = some x := by simpa using hx
  rw [Nat.zero_add] at h1 ⊢
  exact ⟨x, absV_conc h1 fun q1 q2 => rhoW_at h hx' q1 q2, hx'⟩
 ·cases hg

theorem gW_part {W : World} {g : Nat} {arr : Array Value} {e : TypeId} {fz : Nat × Nat} {cs : List V} (h : W.heap[g]? = some (.cells arr e fz)) (hc : arr.toList.map (absV 0) = cs) (hs : ∀ k v, v ∈ arr.toList → absV k v = absV 0 v) : (gW W).get g = some cs := by
 rw [gW_get, h]
 simp only [Option.some.injEq]
 rw [← hc]
 apply List.ext_getElem?
 intro i
 rw [absL_get, List.getElem?_map]
 cases hi : arr.toList[i]? with
 | none => rfl
 | some v => simp only [Option.map_some]; rw [hs _ _ (List.mem_of_getElem? hi)]

theorem cellW {W : World} {a : Addr} {v : Value} (h : W.cell? a = some v) : a.spot = none ∧ ∃ cs, (gW W).get a.block = some cs ∧ ∃ k, cs[a.off]? = some (absV k v) := by
 unfold World.cell? at h
 split at h
 ·rename_i arr e fz hb
  obtain ⟨g, o, sp⟩ := a
  cases sp with
  | some s => simp at h
  | none =>
   refine ⟨rfl, absL W g 0 arr.toList, ?_, g * wide W + (0 + o), ?_⟩
   ·rw [gW_get]; simp only at hb; rw [hb]
   ·rw [absL_get]
    simp only [Option.isSome_none, Bool.false_eq_true, if_false] at h
    rw [Array.getElem?_toList, h]; rfl
 ·cases h
end Go.Ev

namespace Go.Ev
open Go

structure Fix (K : Nat → Prop) (h h' : H) : Prop where
 next : h.next ≤ h'.next
 same : ∀ b, K b → h'.t.get b = h.t.get b
theorem Fix.refl (K : Nat → Prop) (h : H) : Fix K h h := ⟨Nat.le_refl _, fun _ _ => rfl⟩
theorem Fix.trans {K : Nat → Prop} {a b c : H} (h : Fix K a b) (k : Fix K b c) : Fix K a c := ⟨Nat.le_trans h.next k.next, fun x hx => (k.same x hx).trans (h.same x hx)⟩
theorem Fix.sub {K L : Nat → Prop} {a b : H} (h : Fix K a b) (k : ∀ x, L x → K x) : Fix L a b := ⟨h.next, fun x hx => h.same x (k x hx)⟩

def In (K : Nat → Prop) (s : V) : Prop := ∀ b o n c, s = .slice b o n c → K b
def Out (K : Nat → Prop) (s : V) : Prop := ∀ b o n c, s = .slice b o n c → ¬ K b
theorem In.sub {K L : Nat → Prop} {s : V} (h : In K s) (k : ∀ x, K x → L x) : In L s := fun b o n c e => k b (h b o n c e)
theorem In.nils {K : Nat → Prop} : In K .nils := fun _ _ _ _ e => by cases e
theorem In.gsl {K : Nat → Prop} {a : Addr} {n c : Nat} : In K (.gsl a n c) := fun _ _ _ _ e => by cases e

theorem cellsFrom_get {t : T V} {n : Nat} {d : List V} : ∀ {m o : Nat} {vs : List V}, cellsFrom t n d o m = some vs → vs.length = m ∧ ∀ j, j < m → cellAt t n d (o + j) = vs[j]?
 | 0, o, vs, h => by simp [cellsFrom] at h; subst h; exact ⟨rfl, fun j hj => absurd hj (Nat.not_lt_zero _)⟩
 | m + 1, o, vs, h => by
  simp only [cellsFrom] at h
  split at h
  ·cases h
  ·rename_i v hv
   split at h
   ·cases h
   ·rename_i r hr
    injection h with h
    subst h
    obtain ⟨h1, h2⟩ := cellsFrom_get hr
    refine ⟨by simp [h1], fun j hj => ?_⟩
    cases j with
    | zero => simpa using hv
    | succ j =>
     have := h2 j (by omega)
     rw [show o + (j + 1) = Nat.succ o + j by omega, this]; rfl
theorem cellsFrom_of {t : T V} {n : Nat} {d : List V} : ∀ {m o : Nat} {vs : List V}, vs.length = m → (∀ j, j < m → cellAt t n d (o + j) = vs[j]?) → cellsFrom t n d o m = some vs
 | 0, o, vs, h, _ => by
  have : vs = [] := by simpa using h
  subst this; rfl
 | m + 1, o, [], h, _ => by simp at h
 | m + 1, o, v :: r, h, k => by
  have h0 := k 0 (by omega)
  simp only [Nat.add_zero, List.getElem?_cons_zero] at h0
  have := cellsFrom_of (t := t) (n := n) (d := d) (m := m) (o := Nat.succ o) (vs := r) (by simpa using h) (fun j hj => by
   have := k (j + 1) (by omega)
   rw [show o + (j + 1) = Nat.succ o + j by omega] at this
   simpa using this)
  simp only [cellsFrom, h0, this]

structure Sl (E : Env) (h : H) (sz : Nat) (s : V) (n : Nat) (vs : List V) : Prop where
 len : lenV s = some n
 cells : srcCells E h sz n s = some vs
 slice : ∀ x, s ≠ .str x
 cap : (∀ b o m c, s = .slice b o m (.lit c) → m ≤ c) ∧ (∀ a m c, s = .gsl a m c → m ≤ c)

section
variable {E : Env} {K : Nat → Prop} {h h' : H} {sz n : Nat} {s : V} {vs : List V}

theorem Sl.fix (a : Sl E h sz s n vs) (hs : In K s) (hf : Fix K h h') : Sl E h' sz s n vs := by
 refine ⟨a.len, ?_, a.slice, a.cap⟩
 have hc := a.cells
 unfold srcCells at hc ⊢
 split at hc
 ·exact hc
 ·rename_i b o m c
  rw [hf.same b (hs _ _ _ _ rfl)]
  exact hc
 ·exact hc
 ·exact hc
 ·cases hc

theorem Sl.nil : Sl E h sz .nils 0 [] := ⟨rfl, rfl, (fun _ e => by cases e), (fun _ _ _ _ e => by cases e), (fun _ _ _ e => by cases e)⟩

theorem knownL_some {k : Nat} {l vs : List V} (h : knownL k l = some vs) : l.length = k ∧ l.all V.one = true ∧ vs = l := by
 unfold knownL at h
 obtain ⟨h1, h2⟩ := bif_some h
 simp only [Bool.and_eq_true] at h1
 injection h2 with h2
 exact ⟨Nat.eq_of_beq_eq_true h1.1, h1.2, h2.symm⟩
theorem knownL_mk {k : Nat} {l : List V} (h1 : l.length = k) (h2 : l.all V.one = true) : knownL k l = some l := by
 unfold knownL
 have : Nat.beq l.length k = true := by rw [h1]; simp
 rw [this, h2]; rfl

theorem takeG_some {a : Addr} {k : Nat} {vs : List V} (h : takeG E a k = some vs) (hk : 0 < k) : a.spot = none ∧ ∃ cs, E.globs.get a.block = some cs ∧ vs = (cs.drop a.off).take k ∧ vs.length = k ∧ vs.all V.one = true := by
 unfold takeG at h
 split at h
 ·omega
 ·split at h
  ·rename_i hs
   split at h
   ·rename_i cs hcs
    obtain ⟨h1, h2, rfl⟩ := knownL_some h
    exact ⟨hs, cs, hcs, rfl, h1, h2⟩
   ·cases h
  ·cases h
theorem takeG_len {a : Addr} {k : Nat} {vs : List V} (h : takeG E a k = some vs) : vs.length = k := by
 rcases Nat.eq_zero_or_pos k with rfl | hk
 ·simp [takeG] at h; subst h; rfl
 ·exact (takeG_some h hk).2.choose_spec.2.2.1

theorem Sl.size (a : Sl E h sz s n vs) : vs.length = n * sz := by
 have hc := a.cells
 have hl := a.len
 unfold srcCells at hc
 split at hc
 ·simp only [lenV] at hl; injection hl with hl; subst hl
  injection hc with hc; subst hc; simp
 ·rename_i b o m c
  cases h0 : Nat.beq (n * sz) 0 with
  | true => rw [h0] at hc; injection hc with hc; subst hc; simpa using (Nat.eq_of_beq_eq_true h0).symm
  | false =>
   simp only [h0, cond_false] at hc
   obtain ⟨_, hc⟩ := bif_some hc
   split at hc
   ·exact (cellsFrom_get hc).1
   ·cases hc
 ·obtain ⟨_, hc⟩ := bif_some hc
  exact takeG_len hc
 ·exact absurd rfl (a.slice _)
 ·cases hc

theorem Sl.place (a : Sl E h sz s n vs) {t e k : Nat} {i ei : TI} (ht : E.tys.get t = some i) (hd : i.desc = .slice e) (he : E.tys.get e = some ei) (hsz : ei.size = sz) (hpos : 0 < sz) (hk : k < n) :
  ∃ p, indexAddrV E t s (.int .i64 k) = some p ∧ ∀ h', (∀ b o m c, s = .slice b o m c → h'.t.get b = h.t.get b) →
   loadP E h' e p = bif ei.agg then some (.agg ((vs.drop (k * sz)).take sz)) else vs[k * sz]? := by
 have hc := a.cells
 have hl := a.len
 have hlt : Nat.blt k n = true := by simpa using hk
 have hbig : 0 < n * sz := Nat.mul_pos (by omega) hpos
 have hin : k * sz + sz ≤ n * sz := by rw [← Nat.succ_mul]; exact Nat.mul_le_mul_right _ hk
 unfold srcCells at hc
 split at hc
 ·simp only [lenV] at hl; injection hl with hl; omega
 ·rename_i b o m c
  simp only [lenV] at hl; injection hl with hl; subst hl
  have h0 : Nat.beq (m * sz) 0 = false := by
   cases hb : Nat.beq (m * sz) 0 with
   | false => rfl
   | true => have := Nat.eq_of_beq_eq_true hb; omega
  simp only [h0, cond_false] at hc
  obtain ⟨_, hc⟩ := bif_some hc
  split at hc
  ·rename_i T N d e' kk hb
   obtain ⟨q1, q2⟩ := cellsFrom_get hc
   refine ⟨.ptr b (o + k * sz), ?_, fun h' hsame => ?_⟩
   ·simp [indexAddrV, ht, hd, natOf_nat, hlt, sizeOfT, he, hsz]
   ·simp only [loadP, loadV, he, hsame b _ _ _ rfl, hb]
    cases ei.agg with
    | true =>
     simp only [cond_true, hsz]
     rw [cellsFrom_of (vs := (vs.drop (k * sz)).take sz) (by simp; omega) (fun j hj => by
      rw [Nat.add_assoc, q2 _ (by omega), List.getElem?_take, if_pos hj, List.getElem?_drop])]
     rfl
    | false =>
     simp only [cond_false]
     exact q2 _ (by omega)
  ·cases hc
 ·rename_i ad m c
  simp only [lenV] at hl; injection hl with hl; subst hl
  obtain ⟨_, hc⟩ := bif_some hc
  obtain ⟨h1, cs, h2, h3, h4, h5⟩ := takeG_some hc hbig
  refine ⟨.gp ad.block (ad.off + k * sz), ?_, fun h' _ => ?_⟩
  ·simp [indexAddrV, ht, hd, natOf_nat, hlt, sizeOfT, he, hsz, h1]
  ·have hget : ∀ j, j < sz → cs[ad.off + k * sz + j]? = vs[k * sz + j]? := by
    intro j hj
    rw [h3, List.getElem?_take, if_pos (by omega), List.getElem?_drop, Nat.add_assoc]
   simp only [loadP, loadG, he, h2]
   cases ei.agg with
   | true =>
    simp only [cond_true, hsz]
    have hsub : (cs.drop (ad.off + k * sz)).take sz = (vs.drop (k * sz)).take sz := by
     apply List.ext_getElem?
     intro j
     rw [List.getElem?_take, List.getElem?_take]
     split
     ·rename_i hj; rw [List.getElem?_drop, List.getElem?_drop, hget j hj]
     ·rfl
    rw [hsub, knownL_mk (by simp; omega) (by
     rw [List.all_eq_true] at h5 ⊢
     intro x hx
     exact h5 x (List.mem_of_mem_drop (List.mem_of_mem_take hx)))]
    rfl
   | false =>
    simp only [cond_false, nth_eq]
    have := hget 0 hpos
    simp only [Nat.add_zero] at this
    rw [this]
    have hlt2 : k * sz < vs.length := by omega
    rw [List.getElem?_eq_getElem hlt2]
    have h6 : (vs[k * sz]).one = true := List.all_eq_true.1 h5 _ (List.getElem_mem _)
    simp [h6]
 ·exact absurd rfl (a.slice _)
 ·cases hc

theorem Sl.lenB (a : Sl E h sz s n vs) {t : Nat} {i : TI} {e : Nat} (ht : E.tys.get t = some i) (hd : i.desc = .slice e) (h' : H) : Ev.lenB E h' t s = some (.int .i64 n) := by
 have hl := a.len
 unfold lenV at hl
 split at hl
 ·injection hl with hl; subst hl; simp [Ev.lenB, ht, hd]
 ·injection hl with hl; subst hl; simp [Ev.lenB, ht, hd]
 ·injection hl with hl; subst hl; simp [Ev.lenB, ht, hd]
 ·exact absurd rfl (a.slice _)
 ·cases hl

theorem ble_true {a b : Nat} (h : a ≤ b) : Nat.ble a b = true := Nat.ble_eq_true_of_le h
theorem ble_false {a b : Nat} (h : b < a) : Nat.ble a b = false := by
 cases hb : Nat.ble a b with
 | false => rfl
 | true => have := Nat.le_of_ble_eq_true hb; omega
theorem blt_true {a b : Nat} (h : a < b) : Nat.blt a b = true := by simpa using h
theorem beq_false {a b : Nat} (h : a ≠ b) : Nat.beq a b = false := by
 cases hb : Nat.beq a b with
 | false => rfl
 | true => exact absurd (Nat.eq_of_beq_eq_true hb) h
end

theorem fieldAddr_of {E : Env} {t f : Nat} {i j : TI} {fs : Array Field} {fd : Field} (ht : E.tys.get t = some i) (hd : i.desc = .struct fs) (hf : fs.toList[f]? = some fd) (hj : E.tys.get fd.type = some j) (hz : 0 < j.size) {b o : Nat} : fieldAddrV E t (.ptr b o) f = some (.ptr b (o + fd.offset)) := by
 have : sizeOfT E fd.type = some j.size := by simp only [sizeOfT, hj, Option.map_some]
 simp only [fieldAddrV, ht, hd, nth_eq, hf, this]
 split
 ·rename_i h; injection h with h; omega
 ·rfl
 ·rename_i h; cases h
theorem fieldAddr_gp {E : Env} {t f : Nat} {i j : TI} {fs : Array Field} {fd : Field} (ht : E.tys.get t = some i) (hd : i.desc = .struct fs) (hf : fs.toList[f]? = some fd) (hj : E.tys.get fd.type = some j) (hz : 0 < j.size) {b o : Nat} : fieldAddrV E t (.gp b o) f = some (.gp b (o + fd.offset)) := by
 have : sizeOfT E fd.type = some j.size := by simp only [sizeOfT, hj, Option.map_some]
 simp only [fieldAddrV, ht, hd, nth_eq, hf, this]
 split
 ·rename_i h; injection h with h; omega
 ·rfl
 ·rename_i h; cases h
theorem sizeOf_of {E : Env} {t : Nat} {i : TI} (ht : E.tys.get t = some i) : sizeOfT E t = some i.size := by simp only [sizeOfT, ht, Option.map_some]
theorem conv_int {E : Env} {s t : Nat} {i j : TI} {k k' : IntKind} {n : Int} {h : H} (hs : E.tys.get s = some i) (ht : E.tys.get t = some j) (hd : j.desc = .int k) : convV E h s t (.int k' n) = some (.int k (k.wrap n), h) := by
 simp only [convV, hs, ht]
 split <;> simp_all
end Go.Ev
