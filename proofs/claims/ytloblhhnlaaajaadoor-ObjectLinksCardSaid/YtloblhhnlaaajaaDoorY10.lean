/- Rules for walking: what an operation comes to, in the form that rewriting wants. -/
import Derived.Test.YtloblhhnlaaajaaDoorY9
set_option linter.unusedVariables false
set_option linter.unusedSimpArgs false
set_option linter.defProp false
namespace Go.Ev
open Go
def ej (r:R (V×H)) (Q:V→H→Prop):Prop :=
 match r with
 | some l=>∀x∈l,Q x.1 x.2
 | none=>False
def pickV (c:V) (x y:Option V):Option V:=match c with|.bool b=>bif b then x else y|_=>none
def cx (E:Env) (h:H) (ty:Nat) (x:V):Option V:=match x with|.ptr b o=>p6 E h ty b o|.gp g o=>rX E ty g o|_=>none
def su (E:Env) (h:H) (ty:Nat) (x v:V):Option H:=match x with|.ptr b o=>pB E h ty b o v|_=>none
def mz (x:V):Option V:=match x with|.ptr b o=>some (.ptr b o)|.gp b o=>some (.gp b o)|.func f a c=>some (.func f a c)|.yield b=>some (.yield b)|.iface t v=>some (.iface t v)|_=>none
def Ch (x:V) (i:Nat):Option V:=match x with|.tuple vs=>nth vs i|_=>none
def AB (E:Env) (h:H) (ty:Nat):Option (V×H):=match E.tys.get ty with|some i=>some (.ptr (row h ty i.zero 0).1 0,(row h ty i.zero 0).2)|none=>none
def boxV (h:H) (ty:Nat) (v:V):V×H:=(.ptr (row h ty v.cells 0).1 0,(row h ty v.cells 0).2)
def dY (E:Env) (t:Nat) (vs:List (Nat×V)):Option V:=match E.tys.get t with
 | some i=>(match i.desc with
  | .struct fs=>bif !(fs.toList.all fun f=>(E.tys.get f.type).isSome) then none else (cW (fun k=>match nth fs.toList k with
    | some f=>(dy E f.type).map fun s=>(f.offset,s)
    | none=>none) i.zero vs).map .agg
  | .array _ e=>(match dy E e with
   | some s=>(cW (fun k=>some (k * s,s)) i.zero vs).map .agg
   | none=>none)
  | _=>none)
 | none=>none
def iC (E:Env) (h:H) (t n:Nat) (vs:List (Nat×V)):Option (V×H):=match E.tys.get t with
 | some i=>(match i.desc with
  | .slice e=>(match E.tys.get e with
   | some ei=>bif Nat.ble (n * ei.size) 16777216&&Nat.blt 0 ei.size then
     (match cW (fun k=>some (k * ei.size,ei.size)) (j8 ei.zero n) vs with
     | some cs=>some (.slice (row h e cs 0).1 0 n (.lit n),(row h e cs 0).2)
     | none=>none) else none
   | none=>none)
  | _=>none)
 | none=>none
def kv (E:Env) (h:H) (t t2:Nat) (s x:V):Option (V×H):=match E.tys.get t2 with
 | some i=>(match i.desc with|.slice _=>fK E h t s x|.string=>fK E h t s x|.int _=>nF E h t s x|_=>none)
 | none=>none
def WCall (E:Env) (h:H) (f:Option V) (args:Option (List V)) (Q:V→H→Prop):Prop:=match f,args with
 | some (.func g first cap),some args=>WF E g (first++args++cap) h Q
 | _,_=>False
def wantJ (fr:Fr) (g:Option Oper) (want:Bool):Option Bool:=match g with
 | some g=>(match g.dst with
  | some d=>(match fr.ts.get d with
   | some (.bool b)=>some (b==want)
   | some (.tuple [])=>some false
   | _=>none)
  | none=>none)
 | none=>none
def WOp (E:Env) (fr:Fr) (h:H) (o:Oper) (Q:V→H→Prop):Prop :=
 match o.op with
 | .call c=>(match c.callee with
  | .value fo=>(match opd fr fo,jf fr c.args.toList with
   | some (.func g first cap),some args=>WF E g (first++args++cap) h Q
   | _,_=>False)
  | _=>ej (opV E lQ fr h o) Q)
 | _=>ej (opV E lQ fr h o) Q
theorem xC (ih:Rec):LeR lQ ih:=⟨fun _ _ _ _ h=>(by cases h),fun _ _ _ _ h=>(by cases h),fun _ _ _ _ h=>(by cases h)⟩
section
variable {E : Env}
theorem ej.step {fr:Fr} {h:H} {o:Oper} {Q:V→H→Prop} (k:ej (opV E lQ fr h o) Q):qV E fr h o Q:=by
 unfold ej at k
 split at k
 ·rename_i l hl;exact ⟨0,l,hl,k⟩
 ·exact k.elim
theorem WOp.step {fr:Fr} {h:H} {o:Oper} {Q:V→H→Prop} (k:WOp E fr h o Q):qV E fr h o Q:=by
 unfold WOp at k
 split at k
 ·rename_i c hc
  split at k
  ·rename_i fo hfo
   split at k
   ·rename_i g first cap args h1 h2;exact qV.call hc hfo h1 h2 k
   ·exact k.elim
  ·exact k.step
 ·exact k.step
def pw (E:Env) (all:List Oper):List Oper→Fr→H→(Fr→H→Prop)→Prop
 | [],fr,h,Q=>Q fr h
 | o::r,fr,h,Q=>match dS fr all o with
  | none=>False
  | some false=>(match fr.put o.dst un with
   | some fr=>pw E all r fr h Q
   | none=>False)
  | some true=>WOp E fr h o fun v h=>match fr.put o.dst v with
   | some fr=>pw E all r fr h Q
   | none=>False
theorem qV.mono {fr:Fr} {h:H} {o:Oper} {Q Q':V→H→Prop} (k:qV E fr h o Q) (hq:∀v h,Q v h→Q' v h):qV E fr h o Q':=by
 obtain ⟨N,r,h1,h2⟩:=k;exact ⟨N,r,h1,fun y hy=>hq _ _ (h2 y hy)⟩
theorem pw.ops {all:List Oper}:∀{ops:List Oper} {fr:Fr} {h:H} {Q:Fr→H→Prop},pw E all ops fr h Q→CE E all ops fr h Q
 | [],_,_,_,k=>k
 | o::r,fr,h,Q,k=>by
  simp only [pw,CE] at k ⊢
  split at k
  ·exact k.elim
  ·rename_i hw;rw [hw];simp only
   split at k
   ·rename_i hp;rw [hp];exact k.ops
   ·exact k.elim
  ·rename_i hw;rw [hw];simp only;refine k.step.mono fun v h k=>?_
   split at k
   ·rename_i hp;simp only [hp];exact k.ops
   ·exact k.elim
theorem WC.run {id:Nat} {ops:Array Oper} {fr:Fr} {h:H} {Q:Ex→Fr→H→Prop} (k:pw E ops.toList ops.toList fr h fun fr h=>Q .normal fr h):WC E (.region id ops false) fr h Q:=WC.region k.ops
theorem WC.while {body:Code} {Q:Ex→Fr→H→Prop} (Inv:Nat→Fr→H→Prop)
  (step:∀m fr h,Inv m fr h→WC E body fr h fun e fr h=>match e with|.normal=>∃m',m'<m∧Inv m' fr h|e=>Q e fr h)
  {m:Nat} {fr:Fr} {h:H} (h0:Inv m fr h):WC E (.loop body) fr h Q:=by
 induction m using Nat.strongRecOn generalizing fr h with
 | _ m ih =>
  refine WC.loop ((step m fr h h0).mono fun e fr h k=>?_)
  cases e with
  | normal=>obtain ⟨m',h1,h2⟩:=k;exact ih m' h1 h2
  | exit id=>exact k
  | ret=>exact k
theorem sat_rv {h:H} {v:V} {Q:V→H→Prop}:ej (rv h (some v)) Q=Q v h:=by
 simp [ej,rv,fQ]
theorem jz {x:V×H} {Q:V→H→Prop}:ej (r1 (some x)) Q=Q x.1 x.2:=by
 simp [ej,r1,fQ]
theorem pE {h:H} {Q:V→H→Prop}:ej (rh (some h)) Q=Q un h:=by
 simp [ej,rh,fQ]
theorem tz {v:V} {h:H} {Q:V→H→Prop}:ej (fQ (v,h)) Q=Q v h:=by
 simp [ej,fQ]
section
variable {d : Option Nat} {t : Nat} {p : String} {a : Array Edge} {g : Option (Nat × Bool)} {fr : Fr} {h : H} {Q : V → H → Prop}
theorem w_move {x:Operand}:WOp E fr h ⟨d,.move x,t,p,a,g⟩ Q=ej (rv h (opd fr x)) Q:=rfl
theorem HD {x:Operand}:WOp E fr h ⟨d,.assign x,t,p,a,g⟩ Q=ej (rv h (opd fr x)) Q:=rfl
theorem w_pick {c x y:Operand}:WOp E fr h ⟨d,.pick c x y,t,p,a,g⟩ Q=ej (rv h ((opd fr c).bind fun c=>pickV c (opd fr x) (opd fr y))) Q:=by
 simp only [WOp,opV]
 cases opd fr c with
 | none=>rfl
 | some c=>cases c<;>first|rfl|(rename_i b;cases b<;>rfl)
theorem w_load {ty:Nat} {x:Operand}:WOp E fr h ⟨d,.load ty x,t,p,a,g⟩ Q=ej (rv h ((opd fr x).bind fun x=>cx E h ty x)) Q:=by
 simp only [WOp,opV]
 cases opd fr x with
 | none=>rfl
 | some c=>cases c<;>rfl
theorem w_store {ty:Nat} {x y:Operand}:WOp E fr h ⟨d,.store ty x y,t,p,a,g⟩ Q=ej (rh ((opd fr x).bind fun x=>(opd fr y).bind fun y=>su E h ty x y)) Q:=by
 simp only [WOp,opV]
 cases opd fr x with
 | none=>rfl
 | some c=>cases opd fr y with
  | none=>cases c<;>rfl
  | some v=>cases c<;>rfl
theorem w_bin {op:BinOp} {ty ty':Nat} {x y:Operand}:WOp E fr h ⟨d,.binOp op ty x y ty',t,p,a,g⟩ Q=ej (rv h ((opd fr x).bind fun u=>(opd fr y).bind fun v=>fJ E h (iH x||iH y) op ty u v)) Q:=by
 simp only [WOp,opV]
 cases opd fr x with
 | none=>rfl
 | some c=>cases opd fr y<;>rfl
theorem w_un {op:UnOp} {ty:Nat} {x:Operand}:WOp E fr h ⟨d,.unOp op ty x,t,p,a,g⟩ Q=ej (rv h ((opd fr x).bind fun u=>unV op u)) Q:=by
 simp only [WOp,opV]
 cases opd fr x<;>rfl
theorem w_conv {s e:Nat} {x:Operand}:WOp E fr h ⟨d,.convert s e x,t,p,a,g⟩ Q=ej (r1 ((opd fr x).bind fun u=>j3 E h s e u)) Q:=by
 simp only [WOp,opV]
 cases opd fr x<;>rfl
theorem AN {ty:Nat} {x y:Operand}:WOp E fr h ⟨d,.indexAddr ty x y,t,p,a,g⟩ Q=ej (rv h ((opd fr x).bind fun u=>(opd fr y).bind fun v=>cK E ty u v)) Q:=by
 simp only [WOp,opV]
 cases opd fr x with
 | none=>rfl
 | some c=>cases opd fr y<;>rfl
theorem w_len {ty:Nat} {x:Operand}:WOp E fr h ⟨d,.call ⟨.builtin .len,#[x],#[ty]⟩,t,p,a,g⟩ Q=ej (rv h ((opd fr x).bind fun u=>lenB E h ty u)) Q:=by
 simp only [WOp,opV,jf,iP]
 cases opd fr x<;>rfl
theorem AO {ty f:Nat} {x:Operand}:WOp E fr h ⟨d,.fieldAddr ty x f,t,p,a,g⟩ Q=ej (rv h ((opd fr x).bind fun u=>cu E ty u f)) Q:=by
 simp only [WOp,opV]
 cases opd fr x<;>rfl
theorem w_field {ty f:Nat} {x:Operand}:WOp E fr h ⟨d,.field ty x f,t,p,a,g⟩ Q=ej (rv h ((opd fr x).bind fun u=>uC E ty u f)) Q:=by
 simp only [WOp,opV]
 cases opd fr x<;>rfl
theorem CJ {x:Operand}:WOp E fr h ⟨d,.nilCheck x,t,p,a,g⟩ Q=ej (rv h ((opd fr x).bind mz)) Q:=by
 simp only [WOp,opV]
 cases opd fr x with
 | none=>rfl
 | some c=>cases c<;>rfl
theorem w_slice {ty:Nat} {x:Operand} {lo hi mx:Option Operand}:WOp E fr h ⟨d,.slice ty x lo hi mx,t,p,a,g⟩ Q=ej (rv h ((opd fr x).bind fun x=>(mT fr lo).bind fun lo=>(mT fr hi).bind fun hi=>(mT fr mx).bind fun mx=>eL E ty x lo hi mx)) Q:=by
 simp only [WOp,opV]
 cases opd fr x with
 | none=>rfl
 | some x=>cases mT fr lo with
  | none=>rfl
  | some lo=>cases mT fr hi with
   | none=>rfl
   | some hi=>cases mT fr mx<;>rfl
theorem DV {ty:Nat}:WOp E fr h ⟨d,.alloc ty,t,p,a,g⟩ Q=ej (r1 (AB E h ty)) Q:=by
 simp only [WOp,opV,AB]
 cases E.tys.get ty<;>rfl
theorem w_box {ty:Nat} {x:Operand}:WOp E fr h ⟨d,.box ty x,t,p,a,g⟩ Q=ej (r1 ((opd fr x).bind fun v=>some (boxV h ty v))) Q:=by
 simp only [WOp,opV]
 cases opd fr x<;>rfl
theorem w_build {ty:Nat} {ps:Array (Nat×Operand)}:WOp E fr h ⟨d,.build ty ps,t,p,a,g⟩ Q=ej (rv h ((ja fr ps.toList).bind fun vs=>dY E ty vs)) Q:=by
 simp only [WOp,opV]
 cases hp:ja fr ps.toList with
 | none=>cases E.tys.get ty<;>rfl
 | some vs =>
  simp only [bQ,dY]
  cases E.tys.get ty with
  | none=>rfl
  | some i =>
   simp only
   cases hd:i.desc with
   | struct fs =>
    simp only [rv]
    cases (fs.toList.all fun f=>(E.tys.get f.type).isSome)<;>rfl
   | array n e=>simp only;cases dy E e<;>rfl
   | _=>rfl
theorem zJ {ty n:Nat} {ps:Array (Nat×Operand)}:WOp E fr h ⟨d,.buildSlice ty n ps,t,p,a,g⟩ Q=ej (r1 ((ja fr ps.toList).bind fun vs=>iC E h ty n vs)) Q:=by
 simp only [WOp,opV]
 cases hp:ja fr ps.toList with
 | none=>cases E.tys.get ty<;>rfl
 | some vs =>
  simp only [bQ,iC]
  cases E.tys.get ty with
  | none=>rfl
  | some i =>
   simp only
   cases hd:i.desc with
   | slice e =>
    simp only
    cases E.tys.get e with
    | none=>rfl
    | some ei =>
     simp only
     cases (Nat.ble (n * ei.size) 16777216&&Nat.blt 0 ei.size) with
     | false=>rfl
     | true =>
      simp only [cond_true]
      cases cW (fun k=>some (k * ei.size,ei.size)) (j8 ei.zero n) vs<;>rfl
   | _=>rfl
theorem HE {t1 t2:Nat} {x y:Operand}:WOp E fr h ⟨d,.call ⟨.builtin .append,#[x,y],#[t1,t2]⟩,t,p,a,g⟩ Q=ej (r1 ((opd fr x).bind fun u=>(opd fr y).bind fun v=>kv E h t1 t2 u v)) Q:=by
 simp only [WOp,opV,jf,iP]
 cases opd fr x with
 | none=>rfl
 | some u=>cases opd fr y with
  | none=>rfl
  | some v =>
   simp only [bQ,kv]
   cases E.tys.get t2 with
   | none=>rfl
   | some i=>simp only;cases i.desc<;>rfl
theorem w_copy {t1 t2:Nat} {x y:Operand}:WOp E fr h ⟨d,.call ⟨.builtin .copy,#[x,y],#[t1,t2]⟩,t,p,a,g⟩ Q=ej (r1 ((opd fr x).bind fun u=>(opd fr y).bind fun v=>qO E h t1 u v)) Q:=by
 simp only [WOp,opV,jf,iP]
 cases opd fr x with
 | none=>rfl
 | some u=>cases opd fr y<;>rfl
theorem FE {x:Operand} {i:Nat}:WOp E fr h ⟨d,.extract x i,t,p,a,g⟩ Q=ej (rv h ((opd fr x).bind fun u=>Ch u i)) Q:=by
 simp only [WOp,opV]
 cases opd fr x with
 | none=>rfl
 | some c=>cases c<;>rfl
theorem w_call {f:Operand} {xs:Array Operand} {ts:Array Nat}:WOp E fr h ⟨d,.call ⟨.value f,xs,ts⟩,t,p,a,g⟩ Q=WCall E h (opd fr f) (jf fr xs.toList) Q:=rfl
end
theorem HC {h:H} {g:Nat} {first cap args:List V} {Q:V→H→Prop}:WCall E h (some (.func g first cap)) (some args) Q=WF E g (first++args++cap) h Q:=rfl
theorem IT {fr:Fr}:jf fr []=some []:=rfl
theorem GK {fr:Fr} {x:Operand} {r:List Operand}:jf fr (x::r)=(opd fr x).bind fun v=>(jf fr r).bind fun vs=>some (v::vs):=by
 simp only [jf]
 cases opd fr x with
 | none=>rfl
 | some v=>cases jf fr r<;>rfl
theorem GL {fr:Fr}:ja fr []=some []:=rfl
theorem Dc {fr:Fr} {i:Nat} {x:Operand} {r:List (Nat×Operand)}:ja fr ((i,x)::r)=(opd fr x).bind fun v=>(ja fr r).bind fun vs=>some ((i,v)::vs):=by
 simp only [ja]
 cases opd fr x with
 | none=>rfl
 | some v=>cases ja fr r<;>rfl
theorem GN {fr:Fr}:mT fr none=some none:=rfl
theorem GM {fr:Fr} {x:Operand}:mT fr (some x)=(opd fr x).bind fun v=>some (some v):=by
 simp only [mT];cases opd fr x<;>rfl
theorem opd_fn {fr:Fr} {f:Nat}:opd fr (.func f)=some (.func f [] []):=rfl
theorem opd_str {fr:Fr} {s:ByteArray}:opd fr (.const (.string s))=some (.str s.data.toList):=rfl
theorem AL {fr:Fr} {all:List Oper} {d:Option Nat} {op:Op} {t:Nat} {p:String} {a:Array Edge} {j:Nat} {want:Bool}:dS fr all ⟨d,op,t,p,a,some (j,want)⟩=wantJ fr (nth all j) want:=rfl
theorem opd_tmp {fr:Fr} {k:Nat}:opd fr (.tmp k)=fr.ts.get k:=rfl
theorem opd_int {fr:Fr} {k:IntKind} {n:Int}:opd fr (.const (.int k n))=some (.int k n):=rfl
theorem I0 {fr:Fr} {b:Bool}:opd fr (.const (.bool b))=some (.bool b):=rfl
theorem IU {fr:Fr}:opd fr (.const (.slice none 0 0))=some .nils:=rfl
theorem AM {fr:Fr} {all:List Oper} {d:Option Nat} {op:Op} {t:Nat} {p:String} {a:Array Edge}:dS fr all ⟨d,op,t,p,a,none⟩=some true:=rfl
theorem Io {fr:Fr} {v:V}:fr.put none v=some fr:=rfl
theorem Il {ts:T V} {nt:Nat} {mks:List D} {fn:Nat} {rnd:Option Nat} {d:Nat} {v:V}:Fr.put ⟨ts,nt,mks,fn,rnd⟩ (some d) v=if d<nt then some ⟨ts.set d v,nt,mks,fn,rnd⟩ else none:=by
 by_cases hd:d<nt
 ·have:Nat.blt d nt=true:=by simpa using hd
  simp [Fr.put,this,hd]
 ·have:Nat.blt d nt=false:=by cases hb:Nat.blt d nt with
   | false=>rfl
   | true=>exact absurd (by simpa using hb) hd
  simp [Fr.put,this,hd]
theorem Je {vs:List V} {k:Nat}:(T.putL .lf 0 vs).get k=vs[k]?:=by
 rw [T.get_putL];simp [T.get_lf]
theorem tU {h:H} {c:Bool} {ty:Nat} {k:IntKind} {a b:Int}:fJ E h c .lss ty (.int k a) (.int k b)=some (.bool (decide (a<b))):=by
 simp [fJ,binOp,Op.intCmp,gP,ez];rfl
theorem bin_leq {h:H} {c:Bool} {ty:Nat} {k:IntKind} {a b:Int}:fJ E h c .leq ty (.int k a) (.int k b)=some (.bool (decide (a≤b))):=by
 simp [fJ,binOp,Op.intCmp,gP,ez];rfl
theorem gX {h:H} {c:Bool} {ty:Nat} {k:IntKind} {a b:Int}:fJ E h c .gtr ty (.int k a) (.int k b)=some (.bool (decide (b<a))):=by
 simp [fJ,binOp,Op.intCmp,gP,ez];rfl
theorem vM {h:H} {c:Bool} {ty:Nat} {k:IntKind} {a b:Int}:fJ E h c .geq ty (.int k a) (.int k b)=some (.bool (decide (b≤a))):=by
 simp [fJ,binOp,Op.intCmp,gP,ez];rfl
theorem jL {h:H} {c:Bool} {ty:Nat} {k:IntKind} {a b:Int}:fJ E h c .eql ty (.int k a) (.int k b)=some (.bool (a==b)):=by
 simp [fJ,binOp,Op.intCmp,gP,ez];rfl
theorem iK {h:H} {c:Bool} {ty:Nat} {k:IntKind} {a b:Int}:fJ E h c .neq ty (.int k a) (.int k b)=some (.bool (a != b)):=by
 simp [fJ,binOp,Op.intCmp,gP,ez];rfl
theorem ct {h:H} {c:Bool} {ty:Nat} {k:IntKind} {a b:Int}:fJ E h c .add ty (.int k a) (.int k b)=some (.int k (k.wrap (a+b))):=by
 simp [fJ,binOp,Op.intArith,gP,ez];rfl
theorem cF {h:H} {c:Bool} {ty:Nat} {k:IntKind} {a b:Int}:fJ E h c .sub ty (.int k a) (.int k b)=some (.int k (k.wrap (a - b))):=by
 simp [fJ,binOp,Op.intArith,gP,ez];rfl
theorem vL {h:H} {c:Bool} {ty:Nat} {k:IntKind} {a b:Int}:fJ E h c .mul ty (.int k a) (.int k b)=some (.int k (k.wrap (a * b))):=by
 simp [fJ,binOp,Op.intArith,gP,ez];rfl
theorem Ay {h:H} {c:Bool} {ty:Nat} {k:IntKind} {a b:Int} (hb:b≠0):fJ E h c .quo ty (.int k a) (.int k b)=some (.int k (k.wrap (a.tdiv b))):=by
 simp [fJ,binOp,Op.intDiv,gP,ez,hb];rfl
theorem pV {h:H} {c:Bool} {ty:Nat} {k:IntKind} {a b:Int} (hb:b≠0):fJ E h c .rem ty (.int k a) (.int k b)=some (.int k (a.tmod b)):=by
 simp [fJ,binOp,Op.intDiv,gP,ez,hb];rfl
theorem Fu {h:H} {c:Bool} {ty:Nat} {k k':IntKind} {a b:Int} (hb:0≤b):fJ E h c .shr ty (.int k a) (.int k' b)=some (.int k (a.fdiv (2^(min b.toNat k.bits)))):=by
 have:¬b<0:=by omega
 simp [fJ,binOp,Op.shift,gP,ez,this];rfl
theorem cY {b:Bool}:unV .not (.bool b)=some (.bool !b):=rfl
theorem cy {n:Int} (h1:-9223372036854775808≤n) (h2:n<9223372036854775808):IntKind.i64.wrap n=n:=by
 unfold IntKind.wrap;simp only [IntKind.bits,IntKind.signed,Bool.true_and]
 split<;>rename_i h<;>simp at h<;>omega
theorem fW {k:IntKind} {n:Nat}:j0 (.int k (n:Int))=some n:=rfl
end
theorem qW {P:Program}:∀(l:List Nat) (t:Nat),(pX P l).get t=if t∈l then TI.of P t else none
 | [],t=>by simp [pX,T.get_lf]
 | x::r,t=>by
  simp only [pX]
  by_cases e:t=x
  ·subst e
   cases hx:TI.of P t with
   | none=>simp only [aW,true_or,if_true];rw [qW r t,hx];simp
   | some i=>simp [T.get_set]
  ·have:(t∈x::r)↔t∈r:=by simp [e]
   cases hx:TI.of P x with
   | none=>simp only [this];exact qW r t
   | some i=>simp only [T.get_set,e,if_false,this];exact qW r t
theorem dM {P:Program} {n:Nat} {t:Nat} {i:TI} (h:TI.of P t=some i) (hn:Nat.blt t n=true):(pX P (List.range n)).get t=some i:=by
 rw [qW,if_pos (by simpa using hn),h]
theorem dt {P:Program} {f:Nat} {i:FI} (h:FI.of P f=some i):∀{fs:List Nat} (_:nK f fs=true),(nh P fs).get f=some i
 | [],hm=>by cases hm
 | x::r,hm=>by
  simp only [nK] at hm;simp only [nh]
  by_cases e:f=x
  ·subst e;rw [h];simp only [T.get_set,if_true]
  ·have hb:Nat.beq f x=false:=by
    cases hb:Nat.beq f x with
    | false=>rfl
    | true=>exact absurd (aS hb) e
   rw [hb] at hm;have:=dt h (fs:=r) hm
   split
   ·rw [T.get_set,if_neg e];exact this
   ·exact this
theorem Dw {P:Program} {f:Nat}:∀{fs:List Nat} (_:nK f fs=false),(nh P fs).get f=none
 | [],_=>by simp [nh,T.get_lf]
 | x::r,hm=>by
  simp only [nK] at hm;simp only [nh]
  by_cases e:f=x
  ·subst e;rw [show Nat.beq f f=true by simp] at hm;cases hm
  ·have hb:Nat.beq f x=false:=by
    cases hb:Nat.beq f x with
    | false=>rfl
    | true=>exact absurd (aS hb) e
   rw [hb] at hm;have:=Dw (P:=P) (fs:=r) hm
   split
   ·rw [T.get_set,if_neg e];exact this
   ·exact this
theorem FI.of_mk {P:Program} {f:Nat} {fn:Func} {c:Code} {nt:Nat} {res:List ResultVar} (h:P.funcs[f]?=some fn) (hb:fn.body=some c) (hn:(fn.name == "runtime.NumGoroutine")=false) (h1:fn.ntmps=nt) (h2:fn.results.toList=res):FI.of P f=some {nt:=nt,body:=c,res:=res}:=by
 subst h1 h2;simp only [FI.of,h,hb,hn]
end Go.Ev
