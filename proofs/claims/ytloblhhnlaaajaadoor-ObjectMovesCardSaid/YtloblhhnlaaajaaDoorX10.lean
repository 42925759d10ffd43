/- Rules for walking: what an operation comes to, in the form that rewriting wants. -/
import Derived.Test.YtloblhhnlaaajaaDoorX9
set_option linter.unusedVariables false
set_option linter.unusedSimpArgs false
set_option linter.defProp false
namespace Go.Ev
open Go

def Sat1 (r : R (V × H)) (Q : V → H → Prop) : Prop :=
 match r with
 | some l => ∀ x ∈ l, Q x.1 x.2
 | none => False

def pickV (c : V) (x y : Option V) : Option V := match c with | .bool b => bif b then x else y | _ => none
def loadP (E : Env) (h : H) (ty : Nat) (x : V) : Option V := match x with | .ptr b o => loadV E h ty b o | .gp g o => loadG E ty g o | _ => none
def storeP (E : Env) (h : H) (ty : Nat) (x v : V) : Option H := match x with | .ptr b o => storeV E h ty b o v | _ => none

def nilCheckV (x : V) : Option V := match x with | .ptr b o => some (.ptr b o) | .gp b o => some (.gp b o) | .func f a c => some (.func f a c) | .yield b => some (.yield b) | .iface t v => some (.iface t v) | _ => none
def extractV (x : V) (i : Nat) : Option V := match x with | .tuple vs => nth vs i | _ => none
def allocV (E : Env) (h : H) (ty : Nat) : Option (V × H) := match E.tys.get ty with | some i => some (.ptr (row h ty i.zero 0).1 0, (row h ty i.zero 0).2) | none => none
def boxV (h : H) (ty : Nat) (v : V) : V × H := (.ptr (row h ty v.cells 0).1 0, (row h ty v.cells 0).2)
def buildV (E : Env) (t : Nat) (vs : List (Nat × V)) : Option V := match E.tys.get t with
 | some i => (match i.desc with
  | .struct fs => bif !(fs.toList.all fun f => (E.tys.get f.type).isSome) then none else (fillAll (fun k => match nth fs.toList k with
    | some f => (sizeOfT E f.type).map fun s => (f.offset, s)
    | none => none) i.zero vs).map .agg
  | .array _ e => (match sizeOfT E e with
   | some s => (fillAll (fun k => some (k * s, s)) i.zero vs).map .agg
   | none => none)
  | _ => none)
 | none => none
def buildSliceV (E : Env) (h : H) (t n : Nat) (vs : List (Nat × V)) : Option (V × H) := match E.tys.get t with
 | some i => (match i.desc with
  | .slice e => (match E.tys.get e with
   | some ei => bif Nat.ble (n * ei.size) 16777216 && Nat.blt 0 ei.size then
     (match fillAll (fun k => some (k * ei.size, ei.size)) (repL ei.zero n) vs with
     | some cs => some (.slice (row h e cs 0).1 0 n (.lit n), (row h e cs 0).2)
     | none => none) else none
   | none => none)
  | _ => none)
 | none => none
def appendB (E : Env) (h : H) (t t2 : Nat) (s x : V) : Option (V × H) := match E.tys.get t2 with
 | some i => (match i.desc with | .slice _ => appendV E h t s x | .string => appendV E h t s x | .int _ => appendZV E h t s x | _ => none)
 | none => none
def WCall (E : Env) (h : H) (f : Option V) (args : Option (List V)) (Q : V → H → Prop) : Prop := match f, args with
 | some (.func g first cap), some args => WF E g (first ++ args ++ cap) h Q
 | _, _ => False
def wantJ (fr : Fr) (g : Option Oper) (want : Bool) : Option Bool := match g with
 | some g => (match g.dst with
  | some d => (match fr.ts.get d with
   | some (.bool b) => some (b == want)
   | some (.tuple []) => some false
   | _ => none)
  | none => none)
 | none => none

def WOp (E : Env) (fr : Fr) (h : H) (o : Oper) (Q : V → H → Prop) : Prop :=
 match o.op with
 | .call c => (match c.callee with
  | .value fo => (match opd fr fo, opds fr c.args.toList with
   | some (.func g first cap), some args => WF E g (first ++ args ++ cap) h Q
   | _, _ => False)
  | _ => Sat1 (opV E failRec fr h o) Q)
 | _ => Sat1 (opV E failRec fr h o) Q

theorem failRec_le (ih : Rec) : LeR failRec ih := ⟨fun _ _ _ _ h => (by cases h), fun _ _ _ _ h => (by cases h), fun _ _ _ _ h => (by cases h)⟩

section
variable {E : Env}

theorem Sat1.step {fr : Fr} {h : H} {o : Oper} {Q : V → H → Prop} (k : Sat1 (opV E failRec fr h o) Q) : OStep E fr h o Q := by
 unfold Sat1 at k
 split at k
 ·rename_i l hl
  exact ⟨0, l, hl, k⟩
 ·exact k.elim

theorem WOp.step {fr : Fr} {h : H} {o : Oper} {Q : V → H → Prop} (k : WOp E fr h o Q) : OStep E fr h o Q := by
 unfold WOp at k
 split at k
 ·rename_i c hc
  split at k
  ·rename_i fo hfo
   split at k
   ·rename_i g first cap args h1 h2
    exact OStep.call hc hfo h1 h2 k
   ·exact k.elim
  ·exact k.step
 ·exact k.step

def WRun (E : Env) (all : List Oper) : List Oper → Fr → H → (Fr → H → Prop) → Prop
 | [], fr, h, Q => Q fr h
 | o :: r, fr, h, Q => match wantedV fr all o with
  | none => False
  | some false => (match fr.put o.dst un with
   | some fr => WRun E all r fr h Q
   | none => False)
  | some true => WOp E fr h o fun v h => match fr.put o.dst v with
   | some fr => WRun E all r fr h Q
   | none => False

theorem OStep.mono {fr : Fr} {h : H} {o : Oper} {Q Q' : V → H → Prop} (k : OStep E fr h o Q) (hq : ∀ v h, Q v h → Q' v h) : OStep E fr h o Q' := by
 obtain ⟨N, r, h1, h2⟩ := k
 exact ⟨N, r, h1, fun y hy => hq _ _ (h2 y hy)⟩

theorem WRun.ops {all : List Oper} : ∀ {ops : List Oper} {fr : Fr} {h : H} {Q : Fr → H → Prop}, WRun E all ops fr h Q → WOps E all ops fr h Q
 | [], _, _, _, k => k
 | o :: r, fr, h, Q, k => by
  simp only [WRun, WOps] at k ⊢
  split at k
  ·exact k.elim
  ·rename_i hw
   rw [hw]
   simp only
   split at k
   ·rename_i hp; rw [hp]; exact k.ops
   ·exact k.elim
  ·rename_i hw
   rw [hw]
   simp only
   refine k.step.mono fun v h k => ?_
   split at k
   ·rename_i hp; simp only [hp]; exact k.ops
   ·exact k.elim

theorem WC.run {id : Nat} {ops : Array Oper} {fr : Fr} {h : H} {Q : Ex → Fr → H → Prop} (k : WRun E ops.toList ops.toList fr h fun fr h => Q .normal fr h) : WC E (.region id ops false) fr h Q := WC.region k.ops

theorem WC.while {body : Code} {Q : Ex → Fr → H → Prop} (Inv : Nat → Fr → H → Prop)
  (step : ∀ m fr h, Inv m fr h → WC E body fr h fun e fr h => match e with | .normal => ∃ m', m' < m ∧ Inv m' fr h | e => Q e fr h)
  {m : Nat} {fr : Fr} {h : H} (h0 : Inv m fr h) : WC E (.loop body) fr h Q := by
 induction m using Nat.strongRecOn generalizing fr h with
 | _ m ih =>
  refine WC.loop ((step m fr h h0).mono fun e fr h k => ?_)
  cases e with
  | normal => obtain ⟨m', h1, h2⟩ := k; exact ih m' h1 h2
  | exit id => exact k
  | ret => exact k

theorem sat_rv {h : H} {v : V} {Q : V → H → Prop} : Sat1 (rv h (some v)) Q = Q v h := by
 simp [Sat1, rv, rone]
theorem sat_r1 {x : V × H} {Q : V → H → Prop} : Sat1 (r1 (some x)) Q = Q x.1 x.2 := by
 simp [Sat1, r1, rone]
theorem sat_rh {h : H} {Q : V → H → Prop} : Sat1 (rh (some h)) Q = Q un h := by
 simp [Sat1, rh, rone]
theorem sat_rone {v : V} {h : H} {Q : V → H → Prop} : Sat1 (rone (v, h)) Q = Q v h := by
 simp [Sat1, rone]

section
variable {d : Option Nat} {t : Nat} {p : String} {a : Array Edge} {g : Option (Nat × Bool)} {fr : Fr} {h : H} {Q : V → H → Prop}

theorem w_move {x : Operand} : WOp E fr h ⟨d, .move x, t, p, a, g⟩ Q = Sat1 (rv h (opd fr x)) Q := rfl
theorem w_assign {x : Operand} : WOp E fr h ⟨d, .assign x, t, p, a, g⟩ Q = Sat1 (rv h (opd fr x)) Q := rfl
theorem w_pick {c x y : Operand} : WOp E fr h ⟨d, .pick c x y, t, p, a, g⟩ Q = Sat1 (rv h ((opd fr c).bind fun c => pickV c (opd fr x) (opd fr y))) Q := by
 simp only [WOp, opV]
 cases opd fr c with
 | none => rfl
 | some c => cases c <;> first | rfl | (rename_i b; cases b <;> rfl)
theorem w_load {ty : Nat} {x : Operand} : WOp E fr h ⟨d, .load ty x, t, p, a, g⟩ Q = Sat1 (rv h ((opd fr x).bind fun x => loadP E h ty x)) Q := by
 simp only [WOp, opV]
 cases opd fr x with
 | none => rfl
 | some c => cases c <;> rfl
theorem w_store {ty : Nat} {x y : Operand} : WOp E fr h ⟨d, .store ty x y, t, p, a, g⟩ Q = Sat1 (rh ((opd fr x).bind fun x => (opd fr y).bind fun y => storeP E h ty x y)) Q := by
 simp only [WOp, opV]
 cases opd fr x with
 | none => rfl
 | some c => cases opd fr y with
  | none => cases c <;> rfl
  | some v => cases c <;> rfl
theorem w_bin {op : BinOp} {ty ty' : Nat} {x y : Operand} : WOp E fr h ⟨d, .binOp op ty x y ty', t, p, a, g⟩ Q = Sat1 (rv h ((opd fr x).bind fun u => (opd fr y).bind fun v => binV E h (isConst x || isConst y) op ty u v)) Q := by
 simp only [WOp, opV]
 cases opd fr x with
 | none => rfl
 | some c => cases opd fr y <;> rfl
theorem w_un {op : UnOp} {ty : Nat} {x : Operand} : WOp E fr h ⟨d, .unOp op ty x, t, p, a, g⟩ Q = Sat1 (rv h ((opd fr x).bind fun u => unV op u)) Q := by
 simp only [WOp, opV]
 cases opd fr x <;> rfl
theorem w_conv {s e : Nat} {x : Operand} : WOp E fr h ⟨d, .convert s e x, t, p, a, g⟩ Q = Sat1 (r1 ((opd fr x).bind fun u => convV E h s e u)) Q := by
 simp only [WOp, opV]
 cases opd fr x <;> rfl
theorem w_indexAddr {ty : Nat} {x y : Operand} : WOp E fr h ⟨d, .indexAddr ty x y, t, p, a, g⟩ Q = Sat1 (rv h ((opd fr x).bind fun u => (opd fr y).bind fun v => indexAddrV E ty u v)) Q := by
 simp only [WOp, opV]
 cases opd fr x with
 | none => rfl
 | some c => cases opd fr y <;> rfl
theorem w_len {ty : Nat} {x : Operand} : WOp E fr h ⟨d, .call ⟨.builtin .len, #[x], #[ty]⟩, t, p, a, g⟩ Q = Sat1 (rv h ((opd fr x).bind fun u => lenB E h ty u)) Q := by
 simp only [WOp, opV, opds, builtinV]
 cases opd fr x <;> rfl
theorem w_fieldAddr {ty f : Nat} {x : Operand} : WOp E fr h ⟨d, .fieldAddr ty x f, t, p, a, g⟩ Q = Sat1 (rv h ((opd fr x).bind fun u => fieldAddrV E ty u f)) Q := by
 simp only [WOp, opV]
 cases opd fr x <;> rfl
theorem w_field {ty f : Nat} {x : Operand} : WOp E fr h ⟨d, .field ty x f, t, p, a, g⟩ Q = Sat1 (rv h ((opd fr x).bind fun u => fieldV E ty u f)) Q := by
 simp only [WOp, opV]
 cases opd fr x <;> rfl
theorem w_nilCheck {x : Operand} : WOp E fr h ⟨d, .nilCheck x, t, p, a, g⟩ Q = Sat1 (rv h ((opd fr x).bind nilCheckV)) Q := by
 simp only [WOp, opV]
 cases opd fr x with
 | none => rfl
 | some c => cases c <;> rfl
theorem w_slice {ty : Nat} {x : Operand} {lo hi mx : Option Operand} : WOp E fr h ⟨d, .slice ty x lo hi mx, t, p, a, g⟩ Q = Sat1 (rv h ((opd fr x).bind fun x => (opdO fr lo).bind fun lo => (opdO fr hi).bind fun hi => (opdO fr mx).bind fun mx => sliceV E ty x lo hi mx)) Q := by
 simp only [WOp, opV]
 cases opd fr x with
 | none => rfl
 | some x => cases opdO fr lo with
  | none => rfl
  | some lo => cases opdO fr hi with
   | none => rfl
   | some hi => cases opdO fr mx <;> rfl
theorem w_alloc {ty : Nat} : WOp E fr h ⟨d, .alloc ty, t, p, a, g⟩ Q = Sat1 (r1 (allocV E h ty)) Q := by
 simp only [WOp, opV, allocV]
 cases E.tys.get ty <;> rfl
theorem w_box {ty : Nat} {x : Operand} : WOp E fr h ⟨d, .box ty x, t, p, a, g⟩ Q = Sat1 (r1 ((opd fr x).bind fun v => some (boxV h ty v))) Q := by
 simp only [WOp, opV]
 cases opd fr x <;> rfl
theorem w_build {ty : Nat} {ps : Array (Nat × Operand)} : WOp E fr h ⟨d, .build ty ps, t, p, a, g⟩ Q = Sat1 (rv h ((opdPs fr ps.toList).bind fun vs => buildV E ty vs)) Q := by
 simp only [WOp, opV]
 cases hp : opdPs fr ps.toList with
 | none => cases E.tys.get ty <;> rfl
 | some vs =>
  simp only [Option.bind_some, buildV]
  cases E.tys.get ty with
  | none => rfl
  | some i =>
   simp only
   cases hd : i.desc with
   | struct fs =>
    simp only [rv]
    cases (fs.toList.all fun f => (E.tys.get f.type).isSome) <;> rfl
   | array n e => simp only; cases sizeOfT E e <;> rfl
   | _ => rfl
theorem w_buildSlice {ty n : Nat} {ps : Array (Nat × Operand)} : WOp E fr h ⟨d, .buildSlice ty n ps, t, p, a, g⟩ Q = Sat1 (r1 ((opdPs fr ps.toList).bind fun vs => buildSliceV E h ty n vs)) Q := by
 simp only [WOp, opV]
 cases hp : opdPs fr ps.toList with
 | none => cases E.tys.get ty <;> rfl
 | some vs =>
  simp only [Option.bind_some, buildSliceV]
  cases E.tys.get ty with
  | none => rfl
  | some i =>
   simp only
   cases hd : i.desc with
   | slice e =>
    simp only
    cases E.tys.get e with
    | none => rfl
    | some ei =>
     simp only
     cases (Nat.ble (n * ei.size) 16777216 && Nat.blt 0 ei.size) with
     | false => rfl
     | true =>
      simp only [cond_true]
      cases fillAll (fun k => some (k * ei.size, ei.size)) (repL ei.zero n) vs <;> rfl
   | _ => rfl
theorem w_append {t1 t2 : Nat} {x y : Operand} : WOp E fr h ⟨d, .call ⟨.builtin .append, #[x, y], #[t1, t2]⟩, t, p, a, g⟩ Q = Sat1 (r1 ((opd fr x).bind fun u => (opd fr y).bind fun v => appendB E h t1 t2 u v)) Q := by
 simp only [WOp, opV, opds, builtinV]
 cases opd fr x with
 | none => rfl
 | some u => cases opd fr y with
  | none => rfl
  | some v =>
   simp only [Option.bind_some, appendB]
   cases E.tys.get t2 with
   | none => rfl
   | some i => simp only; cases i.desc <;> rfl
theorem w_copy {t1 t2 : Nat} {x y : Operand} : WOp E fr h ⟨d, .call ⟨.builtin .copy, #[x, y], #[t1, t2]⟩, t, p, a, g⟩ Q = Sat1 (r1 ((opd fr x).bind fun u => (opd fr y).bind fun v => copyV E h t1 u v)) Q := by
 simp only [WOp, opV, opds, builtinV]
 cases opd fr x with
 | none => rfl
 | some u => cases opd fr y <;> rfl
theorem w_extract {x : Operand} {i : Nat} : WOp E fr h ⟨d, .extract x i, t, p, a, g⟩ Q = Sat1 (rv h ((opd fr x).bind fun u => extractV u i)) Q := by
 simp only [WOp, opV]
 cases opd fr x with
 | none => rfl
 | some c => cases c <;> rfl
theorem w_call {f : Operand} {xs : Array Operand} {ts : Array Nat} : WOp E fr h ⟨d, .call ⟨.value f, xs, ts⟩, t, p, a, g⟩ Q = WCall E h (opd fr f) (opds fr xs.toList) Q := rfl
end

theorem wcall_fn {h : H} {g : Nat} {first cap args : List V} {Q : V → H → Prop} : WCall E h (some (.func g first cap)) (some args) Q = WF E g (first ++ args ++ cap) h Q := rfl
theorem opds_nil {fr : Fr} : opds fr [] = some [] := rfl
theorem opds_cons {fr : Fr} {x : Operand} {r : List Operand} : opds fr (x :: r) = (opd fr x).bind fun v => (opds fr r).bind fun vs => some (v :: vs) := by
 simp only [opds]
 cases opd fr x with
 | none => rfl
 | some v => cases opds fr r <;> rfl
theorem opdPs_nil {fr : Fr} : opdPs fr [] = some [] := rfl
theorem opdPs_cons {fr : Fr} {i : Nat} {x : Operand} {r : List (Nat × Operand)} : opdPs fr ((i, x) :: r) = (opd fr x).bind fun v => (opdPs fr r).bind fun vs => some ((i, v) :: vs) := by
 simp only [opdPs]
 cases opd fr x with
 | none => rfl
 | some v => cases opdPs fr r <;> rfl
theorem opdO_none {fr : Fr} : opdO fr none = some none := rfl
theorem opdO_some {fr : Fr} {x : Operand} : opdO fr (some x) = (opd fr x).bind fun v => some (some v) := by
 simp only [opdO]; cases opd fr x <;> rfl
theorem opd_fn {fr : Fr} {f : Nat} : opd fr (.func f) = some (.func f [] []) := rfl
theorem opd_str {fr : Fr} {s : ByteArray} : opd fr (.const (.string s)) = some (.str s.data.toList) := rfl
theorem wanted_some {fr : Fr} {all : List Oper} {d : Option Nat} {op : Op} {t : Nat} {p : String} {a : Array Edge} {j : Nat} {want : Bool} : wantedV fr all ⟨d, op, t, p, a, some (j, want)⟩ = wantJ fr (nth all j) want := rfl
theorem opd_tmp {fr : Fr} {k : Nat} : opd fr (.tmp k) = fr.ts.get k := rfl
theorem opd_int {fr : Fr} {k : IntKind} {n : Int} : opd fr (.const (.int k n)) = some (.int k n) := rfl
theorem opd_bool {fr : Fr} {b : Bool} : opd fr (.const (.bool b)) = some (.bool b) := rfl
theorem opd_nils {fr : Fr} : opd fr (.const (.slice none 0 0)) = some .nils := rfl

theorem wanted_none {fr : Fr} {all : List Oper} {d : Option Nat} {op : Op} {t : Nat} {p : String} {a : Array Edge} : wantedV fr all ⟨d, op, t, p, a, none⟩ = some true := rfl
theorem put_none {fr : Fr} {v : V} : fr.put none v = some fr := rfl
theorem put_some {ts : T V} {nt : Nat} {mks : List D} {fn : Nat} {rnd : Option Nat} {d : Nat} {v : V} : Fr.put ⟨ts, nt, mks, fn, rnd⟩ (some d) v = if d < nt then some ⟨ts.set d v, nt, mks, fn, rnd⟩ else none := by
 by_cases hd : d < nt
 ·have : Nat.blt d nt = true := by simpa using hd
  simp [Fr.put, this, hd]
 ·have : Nat.blt d nt = false := by cases hb : Nat.blt d nt with
   | false => rfl
   | true => exact absurd (by simpa using hb) hd
  simp [Fr.put, this, hd]
theorem get_args {vs : List V} {k : Nat} : (T.putL .lf 0 vs).get k = vs[k]? := by
 rw [T.get_putL]; simp [T.get_lf]

theorem bin_lss {h : H} {c : Bool} {ty : Nat} {k : IntKind} {a b : Int} : binV E h c .lss ty (.int k a) (.int k b) = some (.bool (decide (a < b))) := by
 simp [binV, binOp, Op.intCmp, pureVal, ofValue0]; rfl
theorem bin_leq {h : H} {c : Bool} {ty : Nat} {k : IntKind} {a b : Int} : binV E h c .leq ty (.int k a) (.int k b) = some (.bool (decide (a ≤ b))) := by
 simp [binV, binOp, Op.intCmp, pureVal, ofValue0]; rfl
theorem bin_gtr {h : H} {c : Bool} {ty : Nat} {k : IntKind} {a b : Int} : binV E h c .gtr ty (.int k a) (.int k b) = some (.bool (decide (b < a))) := by
 simp [binV, binOp, Op.intCmp, pureVal, ofValue0]; rfl
theorem bin_geq {h : H} {c : Bool} {ty : Nat} {k : IntKind} {a b : Int} : binV E h c .geq ty (.int k a) (.int k b) = some (.bool (decide (b ≤ a))) := by
 simp [binV, binOp, Op.intCmp, pureVal, ofValue0]; rfl
theorem bin_eql {h : H} {c : Bool} {ty : Nat} {k : IntKind} {a b : Int} : binV E h c .eql ty (.int k a) (.int k b) = some (.bool (a == b)) := by
 simp [binV, binOp, Op.intCmp, pureVal, ofValue0]; rfl
theorem bin_neq {h : H} {c : Bool} {ty : Nat} {k : IntKind} {a b : Int} : binV E h c .neq ty (.int k a) (.int k b) = some (.bool (a != b)) := by
 simp [binV, binOp, Op.intCmp, pureVal, ofValue0]; rfl
theorem bin_add {h : H} {c : Bool} {ty : Nat} {k : IntKind} {a b : Int} : binV E h c .add ty (.int k a) (.int k b) = some (.int k (k.wrap (a + b))) := by
 simp [binV, binOp, Op.intArith, pureVal, ofValue0]; rfl
theorem bin_sub {h : H} {c : Bool} {ty : Nat} {k : IntKind} {a b : Int} : binV E h c .sub ty (.int k a) (.int k b) = some (.int k (k.wrap (a - b))) := by
 simp [binV, binOp, Op.intArith, pureVal, ofValue0]; rfl
theorem bin_mul {h : H} {c : Bool} {ty : Nat} {k : IntKind} {a b : Int} : binV E h c .mul ty (.int k a) (.int k b) = some (.int k (k.wrap (a * b))) := by
 simp [binV, binOp, Op.intArith, pureVal, ofValue0]; rfl
theorem bin_quo {h : H} {c : Bool} {ty : Nat} {k : IntKind} {a b : Int} (hb : b ≠ 0) : binV E h c .quo ty (.int k a) (.int k b) = some (.int k (k.wrap (a.tdiv b))) := by
 simp [binV, binOp, Op.intDiv, pureVal, ofValue0, hb]; rfl
theorem bin_rem {h : H} {c : Bool} {ty : Nat} {k : IntKind} {a b : Int} (hb : b ≠ 0) : binV E h c .rem ty (.int k a) (.int k b) = some (.int k (a.tmod b)) := by
 simp [binV, binOp, Op.intDiv, pureVal, ofValue0, hb]; rfl
theorem bin_shr {h : H} {c : Bool} {ty : Nat} {k k' : IntKind} {a b : Int} (hb : 0 ≤ b) : binV E h c .shr ty (.int k a) (.int k' b) = some (.int k (a.fdiv (2 ^ (min b.toNat k.bits)))) := by
 have : ¬ b < 0 := by omega
 simp [binV, binOp, Op.shift, pureVal, ofValue0, this]; rfl
theorem un_not {b : Bool} : unV .not (.bool b) = some (.bool !b) := rfl

theorem wrap64 {n : Int} (h1 : -9223372036854775808 ≤ n) (h2 : n < 9223372036854775808) : IntKind.i64.wrap n = n := by
 unfold IntKind.wrap
 simp only [IntKind.bits, IntKind.signed, Bool.true_and]
 split <;> rename_i h <;> simp at h <;> omega
theorem natOf_nat {k : IntKind} {n : Nat} : natOf (.int k (n : Int)) = some n := rfl
end

theorem tysOf_get {P : Program} : ∀ (l : List Nat) (t : Nat), (tysOf P l).get t = if t ∈ l then TI.of P t else none
 | [], t => by simp [tysOf, T.get_lf]
 | x :: r, t => by
  simp only [tysOf]
  by_cases e : t = x
  ·subst e
   cases hx : TI.of P t with
   | none => simp only [List.mem_cons, true_or, if_true]; rw [tysOf_get r t, hx]; simp
   | some i => simp [T.get_set]
  ·have : (t ∈ x :: r) ↔ t ∈ r := by simp [e]
   cases hx : TI.of P x with
   | none => simp only [this]; exact tysOf_get r t
   | some i => simp only [T.get_set, e, if_false, this]; exact tysOf_get r t
theorem ty_at {P : Program} {n : Nat} {t : Nat} {i : TI} (h : TI.of P t = some i) (hn : Nat.blt t n = true) : (tysOf P (List.range n)).get t = some i := by
 rw [tysOf_get, if_pos (by simpa using hn), h]
theorem fn_in {P : Program} {f : Nat} {i : FI} (h : FI.of P f = some i) : ∀ {fs : List Nat} (_ : memN f fs = true), (fnsOf P fs).get f = some i
 | [], hm => by cases hm
 | x :: r, hm => by
  simp only [memN] at hm
  simp only [fnsOf]
  by_cases e : f = x
  ·subst e; rw [h]; simp only [T.get_set, if_true]
  ·have hb : Nat.beq f x = false := by
    cases hb : Nat.beq f x with
    | false => rfl
    | true => exact absurd (Nat.eq_of_beq_eq_true hb) e
   rw [hb] at hm
   have := fn_in h (fs := r) hm
   split
   ·rw [T.get_set, if_neg e]; exact this
   ·exact this
theorem fn_out {P : Program} {f : Nat} : ∀ {fs : List Nat} (_ : memN f fs = false), (fnsOf P fs).get f = none
 | [], _ => by simp [fnsOf, T.get_lf]
 | x :: r, hm => by
  simp only [memN] at hm
  simp only [fnsOf]
  by_cases e : f = x
  ·subst e; rw [show Nat.beq f f = true by simp] at hm; cases hm
  ·have hb : Nat.beq f x = false := by
    cases hb : Nat.beq f x with
    | false => rfl
    | true => exact absurd (Nat.eq_of_beq_eq_true hb) e
   rw [hb] at hm
   have := fn_out (P := P) (fs := r) hm
   split
   ·rw [T.get_set, if_neg e]; exact this
   ·exact this
theorem FI.of_mk {P : Program} {f : Nat} {fn : Func} {c : Code} {nt : Nat} {res : List ResultVar} (h : P.funcs[f]? = some fn) (hb : fn.body = some c) (hn : (fn.name == "runtime.NumGoroutine") = false) (h1 : fn.ntmps = nt) (h2 : fn.results.toList = res) : FI.of P f = some { nt := nt, body := c, res := res } := by
 subst h1 h2
 simp only [FI.of, h, hb, hn]
end Go.Ev
