/- What holds behind a piece of code, of a call: rules. -/
import Derived.Test.YtloblhhnlaaajaaDoorY8
set_option linter.unusedVariables false
set_option linter.unusedSimpArgs false
set_option linter.defProp false
namespace Go.Ev
open Go
def WC (E:Env) (c:Code) (fr:Fr) (h:H) (Q:Ex→Fr→H→Prop):Prop :=
 ∃N l,(ev E N).code c fr h=some l∧∀x∈l,Q x.1 x.2.1 x.2.2
def WF (E:Env) (f:Nat) (args:List V) (h:H) (Q:V→H→Prop):Prop :=
 ∃N l,(ev E N).call f args h=some l∧∀x∈l,Q x.1 x.2
section
variable {E : Env}
theorem WC.mono {c:Code} {fr:Fr} {h:H} {Q Q':Ex→Fr→H→Prop} (k:WC E c fr h Q) (hq:∀e fr h,Q e fr h→Q' e fr h):WC E c fr h Q':=by
 obtain ⟨N,l,h1,h2⟩:=k;exact ⟨N,l,h1,fun x hx=>hq _ _ _ (h2 x hx)⟩
theorem WF.mono {f:Nat} {a:List V} {h:H} {Q Q':V→H→Prop} (k:WF E f a h Q) (hq:∀v h,Q v h→Q' v h):WF E f a h Q':=by
 obtain ⟨N,l,h1,h2⟩:=k;exact ⟨N,l,h1,fun x hx=>hq _ _ (h2 x hx)⟩
theorem Dt {α β:Type} {F:Nat→α→R β} (hF:∀n m x r,n≤m→F n x=some r→F m x=some r) {Q:β→Prop}:∀{l:List α} (n0:Nat),(∀x∈l,∃N r,F N x=some r∧∀y∈r,Q y) →
  ∃N r,n0≤N∧j9 (F N) l=some r∧∀y∈r,Q y
 | [],n0,_=>⟨n0,[],aI _,rfl,fun y hy=>by cases hy⟩
 | x::l,n0,hx=>by
  obtain ⟨N1,r1,a1,a2⟩:=hx x (aT ..);obtain ⟨N2,r2,b0,b1,b2⟩:=Dt hF (l:=l) (max n0 N1) (fun y hy=>hx y (aM _ hy))
  refine ⟨N2,r1++r2,by omega,?_,fun y hy=>?_⟩
  ·simp only [j9,hF N1 N2 x r1 (by omega) a1,b1]
  ·rcases bN.1 hy with hy|hy
   ·exact a2 y hy
   ·exact b2 y hy
theorem Ik {α β:Type} {l:List α} {f:α→R β} {r:List β} (h:j9 f l=some r):ji (some l) f=some r:=by
 unfold ji;simp only
 split
 ·rename_i x;simp only [j9] at h
  cases hx:f x with
  | none=>rw [hx] at h;cases h
  | some a=>rw [hx] at h;simpa using h
 ·exact h
theorem vm {α β:Type} {G:Nat→R α} {F:Nat→α→R β} (hG:∀n m r,n≤m→G n=some r→G m=some r) (hF:∀n m x r,n≤m→F n x=some r→F m x=some r) {Q:β→Prop}
  (k:∃N l,G N=some l∧∀x∈l,∃N r,F N x=some r∧∀y∈r,Q y):∃N r,ji (G N) (F N)=some r∧∀y∈r,Q y:=by
 obtain ⟨N,l,h1,h2⟩:=k;obtain ⟨M,r,m0,m1,m2⟩:=Dt hF N h2;exact ⟨M,r,by rw [hG N M l m0 h1];exact Ik m1,m2⟩
def qc (E:Env) (c:Code) (fr:Fr) (h:H) (Q:Ex×Fr×H→Prop):Prop:=∃N r,eZ E (ev E N) c fr h=some r∧∀y∈r,Q y
theorem qc.wc {c:Code} {fr:Fr} {h:H} {Q:Ex→Fr→H→Prop} (k:qc E c fr h fun x=>Q x.1 x.2.1 x.2.2):WC E c fr h Q:=by
 obtain ⟨N,r,h1,h2⟩:=k;exact ⟨N+1,r,h1,h2⟩
theorem rF {n m:Nat} (h:n≤m) {c:Code} {fr:Fr} {hp:H} {l:List (Ex×Fr×H)} (k:(ev E n).code c fr hp=some l):(ev E m).code c fr hp=some l:=(xI E h).code _ _ _ _ k
theorem WC.skip {fr:Fr} {h:H} {Q:Ex→Fr→H→Prop} (k:Q .normal fr h):WC E .skip fr h Q:=⟨1,[(.normal,fr,h)],rfl,fun x hx=>by rw [aN.1 hx];exact k⟩
theorem WC.label {n:Nat} {fr:Fr} {h:H} {Q:Ex→Fr→H→Prop} (k:Q .normal fr h):WC E (.label n) fr h Q:=⟨1,[(.normal,fr,h)],rfl,fun x hx=>by rw [aN.1 hx];exact k⟩
theorem WC.exit {id:Nat} {fr:Fr} {h:H} {Q:Ex→Fr→H→Prop} (k:Q (.exit id) fr h):WC E (.exit id) fr h Q:=⟨1,[(.exit id,fr,h)],rfl,fun x hx=>by rw [aN.1 hx];exact k⟩
theorem WC.ret {fr:Fr} {h:H} {Q:Ex→Fr→H→Prop} (k:Q .ret fr h):WC E .ret fr h Q:=⟨1,[(.ret,fr,h)],rfl,fun x hx=>by rw [aN.1 hx];exact k⟩
def JM (E:Env) (b:Code) (Q:Ex→Fr→H→Prop):Ex→Fr→H→Prop
 | .normal,fr,h=>WC E b fr h Q
 | .exit id,fr,h=>Q (.exit id) fr h
 | .ret,fr,h=>Q .ret fr h
def Blk (id:Nat) (Q:Ex→Fr→H→Prop):Ex→Fr→H→Prop
 | .normal,fr,h=>Q .normal fr h
 | .exit id',fr,h=>bif Nat.beq id id' then Q .normal fr h else Q (.exit id') fr h
 | .ret,fr,h=>Q .ret fr h
theorem WC.seq {a b:Code} {fr:Fr} {h:H} {Q:Ex→Fr→H→Prop} (k:WC E a fr h (JM E b Q)):WC E (.seq a b) fr h Q:=by
 obtain ⟨N,l,h1,h2⟩:=k;refine qc.wc ?_;unfold qc eZ
 refine vm (G:=fun N=>(ev E N).code a fr h) (F:=fun N (x:Ex×Fr×H)=>match x.1 with|.normal=>(ev E N).code b x.2.1 x.2.2|e=>fQ (e,x.2.1,x.2.2)) (fun n m r hle=>rF hle) ?_ ⟨N,l,h1,fun x hx=>?_⟩
 ·intro n m x r hle;obtain ⟨e,fr,hp⟩:=x
  cases e with
  | normal=>exact rF hle
  | exit id=>exact fun h=>h
  | ret=>exact fun h=>h
 ·obtain ⟨e,fr,hp⟩:=x;have:=h2 _ hx
  cases e with
  | normal=>exact this
  | exit id=>exact ⟨0,[(.exit id,fr,hp)],rfl,fun y hy=>by rw [aN.1 hy];exact this⟩
  | ret=>exact ⟨0,[(.ret,fr,hp)],rfl,fun y hy=>by rw [aN.1 hy];exact this⟩
theorem WC.loop {body:Code} {fr:Fr} {h:H} {Q:Ex→Fr→H→Prop} (k:WC E body fr h (JM E (.loop body) Q)):WC E (.loop body) fr h Q:=by
 obtain ⟨N,l,h1,h2⟩:=k;refine qc.wc ?_;unfold qc eZ
 refine vm (G:=fun N=>(ev E N).code body fr h) (F:=fun N (x:Ex×Fr×H)=>match x.1 with|.normal=>(ev E N).code (.loop body) x.2.1 x.2.2|e=>fQ (e,x.2.1,x.2.2)) (fun n m r hle=>rF hle) ?_ ⟨N,l,h1,fun x hx=>?_⟩
 ·intro n m x r hle;obtain ⟨e,fr,hp⟩:=x
  cases e with
  | normal=>exact rF hle
  | exit id=>exact fun h=>h
  | ret=>exact fun h=>h
 ·obtain ⟨e,fr,hp⟩:=x;have:=h2 _ hx
  cases e with
  | normal=>exact this
  | exit id=>exact ⟨0,[(.exit id,fr,hp)],rfl,fun y hy=>by rw [aN.1 hy];exact this⟩
  | ret=>exact ⟨0,[(.ret,fr,hp)],rfl,fun y hy=>by rw [aN.1 hy];exact this⟩
theorem WC.block {id:Nat} {body:Code} {fr:Fr} {h:H} {Q:Ex→Fr→H→Prop} (k:WC E body fr h (Blk id Q)):WC E (.block id body) fr h Q:=by
 obtain ⟨N,l,h1,h2⟩:=k;refine qc.wc ?_;unfold qc eZ
 refine vm (G:=fun N=>(ev E N).code body fr h) (fun n m r hle=>rF hle) ?_ ⟨N,l,h1,fun x hx=>?_⟩
 ·exact fun n m x r hle h=>h
 ·obtain ⟨e,fr,hp⟩:=x;have:=h2 _ hx
  cases e with
  | normal=>exact ⟨0,[(.normal,fr,hp)],rfl,fun y hy=>by rw [aN.1 hy];exact this⟩
  | ret=>exact ⟨0,[(.ret,fr,hp)],rfl,fun y hy=>by rw [aN.1 hy];exact this⟩
  | exit id' =>
   simp only [Blk] at this ⊢
   cases hb:Nat.beq id id' with
   | true=>rw [hb] at this;exact ⟨0,[(.normal,fr,hp)],rfl,fun y hy=>by rw [aN.1 hy];exact this⟩
   | false=>rw [hb] at this;exact ⟨0,[(.exit id',fr,hp)],rfl,fun y hy=>by rw [aN.1 hy];exact this⟩
theorem WC.scope {body:Code} {fr:Fr} {h:H} {Q:Ex→Fr→H→Prop} (k:WC E body fr h Q):WC E (.scope body) fr h Q:=by
 obtain ⟨N,l,h1,h2⟩:=k;exact ⟨N+1,l,h1,h2⟩
theorem WC.cond {c:Operand} {b:Bool} {x y:Code} {fr:Fr} {h:H} {Q:Ex→Fr→H→Prop} (hc:opd fr c=some (.bool b)) (k:bif b then WC E x fr h Q else WC E y fr h Q):WC E (.cond c x y) fr h Q:=by
 cases b with
 | true =>
  obtain ⟨N,l,h1,h2⟩:=k;exact ⟨N+1,l,by change eZ E (ev E N) (.cond c x y) fr h=_;simp only [eZ,hc];exact h1,h2⟩
 | false =>
  obtain ⟨N,l,h1,h2⟩:=k;exact ⟨N+1,l,by change eZ E (ev E N) (.cond c x y) fr h=_;simp only [eZ,hc];exact h1,h2⟩
def qV (E:Env) (fr:Fr) (h:H) (o:Oper) (Q:V→H→Prop):Prop:=∃N r,opV E (ev E N) fr h o=some r∧∀y∈r,Q y.1 y.2
theorem wS {n m:Nat} (hle:n≤m) {fr:Fr} {h:H} {o:Oper} {l:List (V×H)} (k:opV E (ev E n) fr h o=some l):opV E (ev E m) fr h o=some l :=
 mU (g':=E.globs) (fun _ _ h=>h) (xI E hle) k
theorem EL {n m:Nat} (hle:n≤m) {all ops:List Oper} {fr:Fr} {h:H} {l:List (Fr×H)} (k:tF E (ev E n) all ops fr h=some l):tF E (ev E m) all ops fr h=some l :=
 rj (g':=E.globs) (fun _ _ h=>h) (xI E hle) k
def CE (E:Env) (all:List Oper):List Oper→Fr→H→(Fr→H→Prop)→Prop
 | [],fr,h,Q=>Q fr h
 | o::r,fr,h,Q=>match dS fr all o with
  | none=>False
  | some false=>(match fr.put o.dst un with
   | some fr=>CE E all r fr h Q
   | none=>False)
  | some true=>qV E fr h o fun v h=>match fr.put o.dst v with
   | some fr=>CE E all r fr h Q
   | none=>False
theorem CE.run {all:List Oper}:∀{ops:List Oper} {fr:Fr} {h:H} {Q:Fr→H→Prop},CE E all ops fr h Q→∃N r,tF E (ev E N) all ops fr h=some r∧∀y∈r,Q y.1 y.2
 | [],fr,h,Q,k=>⟨0,[(fr,h)],rfl,fun y hy=>by rw [aN.1 hy];exact k⟩
 | o::r,fr,h,Q,k=>by
  simp only [CE] at k;simp only [tF]
  split at k
  ·exact k.elim
  ·rename_i hw;rw [hw];simp only
   split at k
   ·rename_i hp;rw [hp];exact k.run
   ·exact k.elim
  ·rename_i hw;rw [hw];simp only;obtain ⟨N,l,h1,h2⟩:=k
   refine vm (G:=fun N=>opV E (ev E N) fr h o) (F:=fun N (x:V×H)=>match fr.put o.dst x.1 with
    | some fr=>tF E (ev E N) all r fr x.2
    | none=>none) (fun n m r hle=>wS hle) ?_ ⟨N,l,h1,fun x hx=>?_⟩
   ·intro n m x r hle hx
    split at hx
    ·exact EL hle hx
    ·cases hx
   ·have:=h2 x hx;simp only at this
    split at this
    ·exact this.run
    ·exact this.elim
theorem WC.region {id:Nat} {ops:Array Oper} {fr:Fr} {h:H} {Q:Ex→Fr→H→Prop} (k:CE E ops.toList ops.toList fr h fun fr h=>Q .normal fr h):WC E (.region id ops false) fr h Q:=by
 obtain ⟨N,l,h1,h2⟩:=k.run;refine qc.wc ?_;unfold qc eZ;simp only [cond_false]
 refine vm (G:=fun N=>tF E (ev E N) ops.toList ops.toList fr h) (fun n m r hle=>EL hle) ?_ ⟨N,l,h1,fun x hx=>?_⟩
 ·exact fun n m x r hle h=>h
 ·exact ⟨0,[(.normal,x.1,x.2)],rfl,fun y hy=>by rw [aN.1 hy];exact h2 x hx⟩
def Fin (E:Env) (i:FI) (Q:V→H→Prop):Ex→Fr→H→Prop
 | .exit _,_,_=>False
 | _,fr,h=>match jF fr.mks h with
  | none=>False
  | some h=>match resV E fr h i.res with
   | none=>False
   | some vs=>Q (og vs) h
theorem WF.enter {f:Nat} {i:FI} {args:List V} {h:H} {Q:V→H→Prop} (hf:E.fns.get f=some i) (hn:Nat.ble args.length i.nt=true)
  (k:WC E i.body {ts:=T.putL .lf 0 args,nt:=i.nt,mks:=[],fn:=f,rnd:=none} h (Fin E i Q)):WF E f args h Q:=by
 obtain ⟨N,l,h1,h2⟩:=k
 suffices hs:∃N r,gh E (ev E N) f args h=some r∧∀y∈r,Q y.1 y.2 by
  obtain ⟨N,r,a,b⟩:=hs;exact ⟨N+1,r,a,b⟩
 unfold gh;rw [hf];unfold ll;simp only [hn,cond_true]
 refine vm (G:=fun N=>(ev E N).code i.body _ h) (fun n m r hle=>rF hle) ?_ ⟨N,l,h1,fun x hx=>?_⟩
 ·exact fun n m x r hle h=>h
 ·obtain ⟨e,fr,hp⟩:=x;have:=h2 _ hx
  have fin:(match jF fr.mks hp with
   | none=>False
   | some h=>match resV E fr h i.res with
    | none=>False
    | some vs=>Q (og vs) h)→∃(N:Nat) (r:List (V×H)),(match jF fr.mks hp with
     | none=>none
     | some h=>match resV E fr h i.res with
      | some vs=>fQ (og vs,h)
      | none=>none)=some r∧∀y∈r,Q y.1 y.2:=by
   intro q
   split at q
   ·exact q.elim
   ·split at q
    ·exact q.elim
    ·rename_i vs hvs;rw [hvs];exact ⟨0,[(og vs,_)],rfl,fun y hy=>by rw [aN.1 hy];exact q⟩
  cases e with
  | normal=>exact fin this
  | ret=>exact fin this
  | exit id=>exact this.elim
theorem WF.keys {f:Nat} {args:List V} {h:H} {Q:V→H→Prop} {x:V×H} (h1:E.fns.get f=none) (h2:vf f E.exts=none) (h3:E.sw.get f=none) (h4:E.dn.contains f=false) (h5:zk E h f args=some x) (k:Q x.1 x.2):WF E f args h Q :=
 ⟨1,[x],by change gh E (ev E 0) f args h=_;unfold gh;rw [h1];simp only [oQ,h2,h3,h4,Bool.false_and,cond_false,h5,r1];rfl,fun y hy=>by rw [aN.1 hy];exact k⟩
theorem WF.done {f:Nat} {h:H} {Q:V→H→Prop} (h1:E.fns.get f=none) (h2:vf f E.exts=none) (h3:E.sw.get f=none) (h4:E.dn.contains f=true) (k:Q (.bool true) {t:=.lf,bX:=h.bX}):WF E f [] h Q :=
 ⟨1,[(.bool true,{t:=.lf,bX:=h.bX})],by change gh E (ev E 0) f [] h=_;unfold gh;rw [h1];simp only [oQ,h2,h3,h4];rfl,fun x hx=>by rw [aN.1 hx];exact k⟩
theorem qV.call {fr:Fr} {h:H} {o:Oper} {c:Call} {fo:Operand} {g:Nat} {first cap args:List V} {Q:V→H→Prop} (ho:o.op=.call c) (hc:c.callee=.value fo) (hf:opd fr fo=some (.func g first cap))
  (ha:jf fr c.args.toList=some args) (k:WF E g (first++args++cap) h Q):qV E fr h o Q:=by
 obtain ⟨N,l,h1,h2⟩:=k;exact ⟨N,l,by simp only [opV,ho,hc,ha,hf,lO,h1],h2⟩
theorem qV.plain {fr:Fr} {h:H} {o:Oper} {v:V} {h':H} {Q:V→H→Prop} (ho:opV E lQ fr h o=some [(v,h')]) (k:Q v h'):qV E fr h o Q :=
 ⟨0,[(v,h')],ho,fun y hy=>by rw [aN.1 hy];exact k⟩
end
end Go.Ev
