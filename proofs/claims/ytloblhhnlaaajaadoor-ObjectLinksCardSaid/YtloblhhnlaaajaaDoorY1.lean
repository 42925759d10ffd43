/- The relation between an abstract state and the machine's, and how each change of memory keeps it. -/
import Derived.Test.YtloblhhnlaaajaaDoorY0
import Derived.Below
import Derived.Laws.AppendOwn
import Derived.MapKept
set_option linter.unusedVariables false
set_option linter.unusedSimpArgs false
set_option linter.defProp false
namespace Go.Ev
open Go
def JR (ρ:Rho) (cs:List V) (arr:Array Value):Prop:=∀(j:Nat) v,cs[j]?=some v→v.one=true→∃X,conc ρ (fun _=>none) v=some X∧arr[j]?=some X
def vq (E:Env) (ρ:Rho) (w:World):Prop:=∀g cs,E.globs.get g=some cs→∃arr e fz,w.heap[g]?=some (.cells arr e fz)∧JR ρ cs arr
def Done (P:Program) (f:FuncId) (w:World):Prop :=
 (callFunc f #[]).run P w=.ok (.enter f #[]) w∧∀cs,∃w',RowKit.Below w.heap.size w w'∧∃fr,Steps P (lone (Frame.enter P f #[] .normal) cs w) (lone fr cs w')∧fr.fn=f∧fr.leaving P w' (.returned (.bool true))
def zH (P:Program) (f g e:Nat):Prop :=
 (∀args w,(callFunc f args).run P w=.ok (.enter f args) w) ∧
 ∀(w:World) (B b:Nat) (es:Array MapEntry) (clock:Nat) (ks:List (List UInt8)),w.cell? ⟨B,0,none⟩=some (.map (some b))→w.heap[b]?=some (.map es clock)→MapKept.Stamped es clock →
  es.toList.map (·.key)=ks.map (fun s=>.string ⟨s.toArray⟩)→(∀k∈ks,k.length≤140737488355328)→es.size * 16≤140737488355328 →
  Calls P f #[.func (.func g) #[] #[.pointer (some ⟨B,0,none⟩)]] w fun x w'=>∃v,x=.returned v ∧
   w'.ownsRow w.heap.size e 1 v ks.length ((dK ks).map fun s=>.string ⟨s.toArray⟩)∧(v=.slice none 0 0↔ks=[])∧RowKit.Below w.heap.size w w'
structure EnvOk (P:Program) (E:Env):Prop where
 tys:∀t i,E.tys.get t=some i→TI.of P t=some i
 fns:∀f i,E.fns.get f=some i→∃fn,P.funcs[f]?=some fn∧fn.body=some i.body∧i.nt=fn.ntmps∧i.res=fn.results.toList∧(fn.name == "runtime.NumGoroutine")=false
 meths:∀t n f,wU t n E.meths=some f→∀v w,(method (P.types.size+Made.depth) t v n).run P w=.ok (f,v) w
 eqs:∀ty,E.eqs.contains ty=true→P.eqGuardType P.depth ty=false∧P.stoodInHeld ty=false
 exts:∀f k,vf f E.exts=some k→∀(ρ:Rho) (μ:Mu) args X v,extV k args=some v→cE ρ μ args=some X →
  ∃Y,conc ρ μ v=some Y∧∀w,(callFunc f X.toArray).run P w=.ok (.value Y) w
 sw:∀f i,E.sw.get f=some i→∃fn,P.funcs[f]?=some fn∧fn.body=some i.body∧i.nt=fn.ntmps∧i.res=fn.results.toList∧(fn.name == "runtime.NumGoroutine")=false
 dn:∀f,E.dn.contains f=true→∀(ρ:Rho) (w:World),vq E ρ w→Done P f w
 mixed:P.follows .mixedOrders=true
 sk:∀f g e,A9 f E.sk [g]=some e→zH P f g e
section
variable {P : Program} {E : Env} {ρ : Rho}
theorem EnvOk.ty (hE:EnvOk P E) {t:Nat} {i:TI} (h:E.tys.get t=some i) :
  ∃inf z v,P.info? t=some inf∧P.underlying t=some i.desc∧inf.size=i.size∧inf.bytes=i.bytes∧inf.zero=some z∧ofValue z=some v∧i.zero=v.cells∧i.zv=v∧inf.comparable=i.cmp∧i.zero.length=i.size:=by
 have:=hE.tys t i h;unfold TI.of at this
 split at this
 ·rename_i inf d h1 h2
  split at this
  ·rename_i z hz
   split at this
   ·rename_i v hv
    cases hb:Nat.beq v.cells.length inf.size with
    | false=>rw [hb] at this;cases this
    | true =>
     rw [hb] at this;injection this with this;subst this;exact ⟨inf,z,v,h1,h2,rfl,rfl,hz,hv,rfl,rfl,rfl,aS hb⟩
   ·cases this
  ·cases this
 ·cases this
inductive BR (E:Env) (ρ:Rho) (μ:Mu):B→Nat×Nat→Obj→Prop where
 | cells {t n d elem kind x arr fz} (hc:∀j v,eH t n d j=some v→∃X,conc ρ μ v=some X∧arr[j]?=some X)
   (hn:n≤arr.size) (h0:kind=0∨kind=3→arr.size=n)
   (ho:kind=1∨kind=2→∃i,E.tys.get elem=some i∧arr.size=x.2 * i.size)
   (hf:kind≠2→kind≠3→fz=(0,0)) (hf2:kind=2∨kind=3→fz=(0,0)∨fz.1=arr.size):BR E ρ μ (.cells t n d elem kind) x (.cells arr elem fz)
 | map {es:List (V×V×Nat)} {clock:Nat} {x:Nat×Nat} {arr:Array MapEntry} (he:es.length=arr.size) (hc:∀(i:Nat) k v born,es[i]?=some (k,v,born)→∃K X,conc ρ μ k=some K∧conc ρ μ v=some X∧arr[i]?=some (MapEntry.mk K X born)) :
   BR E ρ μ (.map es clock) x (.map arr clock)
 | mapIter {m since seen stepped x m'} (hm:match m with|none=>m'=none|some b=>∃y,μ b=some y∧m'=some y.1) :
   BR E ρ μ (.mapIter m since seen stepped) x (.mapIter m' since seen.toArray stepped)
 | strIter {s pos x}:BR E ρ μ (.strIter s pos) x (.stringIter ⟨s.toArray⟩ pos)
 | loop {st pend fn ts nt ps a b d x tmps y} (ht:tmps.size=nt) (hc:∀t v,ts.get t=some v→∃X,conc ρ μ v=some X∧tmps[t]?=some X) (hd:μ d=some y) :
   BR E ρ μ (.loop st pend fn ts nt ps a b d) x (.loop {state:=st,pending:=pend,fn:=fn,tmps:=tmps,params:=ps.toArray,assign:=a,body:=b,defers:=y.1})
 | defs {taken x}:BR E ρ μ (.defs taken) x (.deferred (if taken then none else some []))
theorem BR.le {μ μ':Mu} (h:Le μ μ') {b:B} {x:Nat×Nat} {o:Obj} (k:BR E ρ μ b x o):BR E ρ μ' b x o:=by
 cases k with
 | cells hc hn h0 ho hf hf2=>exact .cells (fun j v e=>let ⟨X,h1,h2⟩:=hc j v e;⟨X,eY h _ _ h1,h2⟩) hn h0 ho hf hf2
 | map he hc=>exact .map he fun i k v born e=>let ⟨K,X,h1,h2,h3⟩:=hc i k v born e;⟨K,X,eY h _ _ h1,eY h _ _ h2,h3⟩
 | mapIter hm =>
  refine .mapIter ?_
  split at hm
  ·exact hm
  ·obtain ⟨y,h1,h2⟩:=hm;exact ⟨y,h _ _ h1,h2⟩
 | strIter=>exact .strIter
 | loop ht hc hd=>exact .loop ht (fun j v e=>let ⟨X,h1,h2⟩:=hc j v e;⟨X,eY h _ _ h1,h2⟩) (h _ _ hd)
 | defs=>exact .defs
structure HR (E:Env) (ρ:Rho) (μ:Mu) (h:H) (w:World):Prop where
 blk:∀b B,h.t.get b=some B→∃x o,μ b=some x∧w.heap[x.1]?=some o∧BR E ρ μ B x o
 inj:∀b b' x x',(h.t.get b).isSome→(h.t.get b').isSome→μ b=some x→μ b'=some x'→b≠b'→x.1≠x'.1
 fresh:∀b,h.bX≤b→μ b=none
 inb:∀b x,μ b=some x→x.1<w.heap.size
 cn:∀g cs,E.globs.get g=some cs→(∃arr e fz,w.heap[g]?=some (.cells arr e fz)∧JR ρ cs arr)∧∀b x,μ b=some x→x.1≠g
structure Grows (μ:Mu) (w:World) (μ':Mu) (w':World):Prop where
 le:Le μ μ'
 new:∀b x,μ' b=some x→μ b=some x∨w.heap.size≤x.1∨∃b0 x0,μ b0=some x0∧x0.1=x.1
 os:w'.os=w.os
 tape:w'.tape=w.tape
 output:w'.output=w.output
 size:w.heap.size≤w'.heap.size
 block:∀g,g<w.heap.size→(∀b x,μ b=some x→x.1≠g)→w'.heap[g]?=w.heap[g]?
theorem Grows.refl (μ:Mu) (w:World):Grows μ w μ w:=⟨Le.refl μ,fun _ _ h=>.inl h,rfl,rfl,rfl,aI _,fun _ _ _=>rfl⟩
theorem Grows.trans {μ μ1 μ2:Mu} {w w1 w2:World} (h:Grows μ w μ1 w1) (k:Grows μ1 w1 μ2 w2):Grows μ w μ2 w2:=by
 refine ⟨h.le.trans k.le,fun b x e=>?_,k.os.trans h.os,k.tape.trans h.tape,k.output.trans h.output,Nat.le_trans h.size k.size,fun g hg hn=>?_⟩
 ·rcases k.new b x e with e1|e1|⟨b0,x0,e1,e2⟩
  ·exact h.new b x e1
  ·exact .inr (.inl (Nat.le_trans h.size e1))
  ·rcases h.new b0 x0 e1 with e3|e3|⟨b1,x1,e3,e4⟩
   ·exact .inr (.inr ⟨b0,x0,e3,e2⟩)
   ·exact .inr (.inl (by omega))
   ·exact .inr (.inr ⟨b1,x1,e3,by omega⟩)
 ·rw [k.block g (Nat.lt_of_lt_of_le hg h.size) ?_]
  ·exact h.block g hg hn
  ·intro b x e hx
   rcases h.new b x e with e1|e1|⟨b0,x0,e1,e2⟩
   ·exact hn b x e1 hx
   ·omega
   ·exact hn b0 x0 e1 (by omega)
theorem Grows.ca {μ:Mu} {w w':World} (hh:w'.heap=w.heap) (ho:w'.os=w.os) (ht:w'.tape=w.tape) (hp:w'.output=w.output):Grows μ w μ w' :=
 ⟨Le.refl μ,fun _ _ h=>.inl h,ho,ht,hp,by rw [hh];exact aI _,fun _ _ _=>by rw [hh]⟩
theorem HR.ca {μ:Mu} {h:H} {w w':World} (k:HR E ρ μ h w) (hh:w'.heap=w.heap):HR E ρ μ h w' :=
 ⟨by rw [hh];exact k.blk,k.inj,k.fresh,by rw [hh];exact k.inb,by rw [hh];exact k.cn⟩
def Mu.put (μ:Mu) (b:Nat) (x:Nat×Nat):Mu:=fun c=>if c=b then some x else μ c
theorem Mu.put_same (μ:Mu) (b:Nat) (x:Nat×Nat):μ.put b x b=some x:=by simp [Mu.put]
theorem Mu.put_other (μ:Mu) {b c:Nat} (x:Nat×Nat) (h:c≠b):μ.put b x c=μ c:=by simp [Mu.put,h]
theorem Mu.le_put {μ:Mu} {b:Nat} (x:Nat×Nat) (h:μ b=none):Le μ (μ.put b x):=by
 intro c y hy
 rw [Mu.put_other]
 ·exact hy
 ·rintro rfl;rw [h] at hy;cases hy
theorem HR.alloc {μ:Mu} {h:H} {w w':World} {B:B} {o:Obj} {cap:Nat} (k:HR E ρ μ h w)
  (hb:BR E ρ (μ.put h.bX (w.heap.size,cap)) B (w.heap.size,cap) o) (hw:w'.heap=w.heap.push o) :
  HR E ρ (μ.put h.bX (w.heap.size,cap)) (h.new B).2 w':=by
 have hfr:μ h.bX=none:=k.fresh _ (aI _);have hle:=Mu.le_put (μ:=μ) (w.heap.size,cap) hfr;have old:∀b x,μ b=some x→(μ.put h.bX (w.heap.size,cap)) b=some x:=hle;have size:w'.heap.size=w.heap.size+1:=by rw [hw];simp
 have look:∀g,g<w.heap.size→w'.heap[g]?=w.heap[g]?:=fun g hg=>by rw [hw,Array.getElem?_push,if_neg (by omega)]
 refine ⟨fun b B' hB'=>?_,fun b b' x x' hb1 hb2 h1 h2 hne=>?_,fun b hb'=>?_,fun b x hx=>?_,fun g cs hg=>?_⟩
 ·simp only [H.new,T.get_set] at hB'
  by_cases e:b=h.bX
  ·rw [if_pos e] at hB';injection hB' with hB';subst hB' e;exact ⟨_,o,Mu.put_same _ _ _,by rw [hw];simp,hb⟩
  ·rw [if_neg e] at hB';obtain ⟨x,o',h1,h2,h3⟩:=k.blk b B' hB';exact ⟨x,o',old b x h1,by rw [look _ (k.inb b x h1)];exact h2,h3.le hle⟩
 ·simp only [H.new,T.get_set] at hb1 hb2
  by_cases e:b=h.bX
  ·subst e;rw [Mu.put_same] at h1;injection h1 with h1;rw [Mu.put_other _ _ (Ne.symm hne)] at h2;have:=k.inb _ _ h2;rw [←h1];show w.heap.size≠_;omega
  ·by_cases e':b'=h.bX
   ·subst e';rw [Mu.put_same] at h2;injection h2 with h2;rw [Mu.put_other _ _ e] at h1;have:=k.inb _ _ h1;rw [←h2];show _≠w.heap.size;omega
   ·rw [if_neg e] at hb1;rw [if_neg e'] at hb2;rw [Mu.put_other _ _ e] at h1;rw [Mu.put_other _ _ e'] at h2;exact k.inj b b' x x' hb1 hb2 h1 h2 hne
 ·have hb'':h.bX+1≤b:=hb';rw [Mu.put_other _ _ (by omega)];exact k.fresh b (by omega)
 ·rw [size]
  by_cases e:b=h.bX
  ·subst e;rw [Mu.put_same] at hx;injection hx with hx;rw [←hx];show w.heap.size<_;omega
  ·rw [Mu.put_other _ _ e] at hx;have:=k.inb b x hx;omega
 ·obtain ⟨⟨arr,e,fz,h1,h2⟩,h4⟩:=k.cn g cs hg
  have hg':g<w.heap.size:=by
   rcases Nat.lt_or_ge g w.heap.size with h|h
   ·exact h
   ·rw [Array.getElem?_eq_none h] at h1;cases h1
  refine ⟨⟨arr,e,fz,by rw [look g hg'];exact h1,h2⟩,fun b x hx=>?_⟩
  by_cases e:b=h.bX
  ·subst e;rw [Mu.put_same] at hx;injection hx with hx;rw [←hx];show w.heap.size≠g;omega
  ·rw [Mu.put_other _ _ e] at hx;exact h4 b x hx
theorem Grows.alloc {μ:Mu} {h:H} {w w':World} {o:Obj} (k:HR E ρ μ h w) (cap:Nat) (hw:w'.heap=w.heap.push o) (ho:w'.os=w.os) (ht:w'.tape=w.tape) (hp:w'.output=w.output) :
  Grows μ w (μ.put h.bX (w.heap.size,cap)) w':=by
 refine ⟨Mu.le_put _ (k.fresh _ (aI _)),fun b x hx=>?_,ho,ht,hp,by rw [hw];simp,fun g hg _=>by rw [hw,Array.getElem?_push,if_neg (by omega)]⟩
 by_cases e:b=h.bX
 ·subst e;rw [Mu.put_same] at hx;injection hx with hx;rw [←hx];exact .inr (.inl (aI _))
 ·rw [Mu.put_other _ _ e] at hx;exact .inl hx
theorem HR.change {μ:Mu} {h:H} {w w':World} {b:Nat} {B0 B1:B} {x:Nat×Nat} {o:Obj} (k:HR E ρ μ h w) (h0:h.t.get b=some B0) (hx:μ b=some x)
  (hb:BR E ρ μ B1 x o) (hs:w'.heap.size=w.heap.size) (hsame:∀g,g≠x.1→w'.heap[g]?=w.heap[g]?) (hat:w'.heap[x.1]?=some o):HR E ρ μ (h.put b B1) w':=by
 have live:∀c,((h.put b B1).t.get c).isSome→(h.t.get c).isSome:=by
  intro c hc;simp only [H.put,T.get_set] at hc
  by_cases e:c=b
  ·subst e;rw [h0];rfl
  ·rwa [if_neg e] at hc
 refine ⟨fun c B' hB'=>?_,fun c c' y y' hc hc' h1 h2 hne=>k.inj c c' y y' (live c hc) (live c' hc') h1 h2 hne,k.fresh,fun c y hy=>by rw [hs];exact k.inb c y hy,fun g cs hg=>?_⟩
 ·simp only [H.put,T.get_set] at hB'
  by_cases e:c=b
  ·rw [if_pos e] at hB';injection hB' with hB';subst hB' e;exact ⟨x,o,hx,hat,hb⟩
  ·rw [if_neg e] at hB';obtain ⟨y,o',h1,h2,h3⟩:=k.blk c B' hB';refine ⟨y,o',h1,?_,h3⟩
   rw [hsame]
   ·exact h2
   ·exact k.inj c b y x (by rw [hB'];rfl) (by rw [h0];rfl) h1 hx e
 ·obtain ⟨⟨arr,e,fz,h1,h2⟩,h4⟩:=k.cn g cs hg;exact ⟨⟨arr,e,fz,by rw [hsame g (fun e=>h4 b x hx e.symm)];exact h1,h2⟩,h4⟩
theorem Grows.change {μ:Mu} {w w':World} {b:Nat} {x:Nat×Nat} (hx:μ b=some x) (hs:w'.heap.size=w.heap.size) (hsame:∀g,g≠x.1→w'.heap[g]?=w.heap[g]?)
  (ho:w'.os=w.os) (ht:w'.tape=w.tape) (hp:w'.output=w.output):Grows μ w μ w' :=
 ⟨Le.refl μ,fun _ _ h=>.inl h,ho,ht,hp,by omega,fun g _ hn=>hsame g (fun e=>hn b x hx e.symm)⟩
inductive DR (μ:Mu):List D→List Deferred→Prop where
 | nil:DR μ [] []
 | mark {b x r l} (h:μ b=some x) (k:DR μ r l):DR μ (.mark b::r) ({target:=.collected x.1,args:=#[]}::l)
theorem DR.le {μ μ':Mu} (h:Le μ μ'):∀{m:List D} {l:List Deferred},DR μ m l→DR μ' m l
 | _,_,.nil=>.nil
 | _,_,.mark hb k=>.mark (h _ _ hb) (DR.le h k)
structure FR (ρ:Rho) (μ:Mu) (fr:Fr) (a:Act):Prop where
 tmps:∀t v,fr.ts.get t=some v→∃X,conc ρ μ v=some X∧a.tmps[t]?=some X
 size:a.tmps.size=fr.nt
 defs:DR μ fr.mks a.defers
theorem FR.le {μ μ':Mu} (h:Le μ μ') {fr:Fr} {a:Act} (k:FR ρ μ fr a):FR ρ μ' fr a :=
 ⟨fun t v e=>let ⟨X,h1,h2⟩:=k.tmps t v e;⟨X,eY h _ _ h1,h2⟩,k.size,k.defs.le h⟩
theorem cJ {μ:Mu} {fr:Fr} {a:Act} (k:FR ρ μ fr a) {x:Operand} {v:V} (h:opd fr x=some v):∃X,conc ρ μ v=some X∧a.eval x=X:=by
 cases x with
 | tmp t =>
  obtain ⟨X,h1,h2⟩:=k.tmps t v h;exact ⟨X,h1,by simp [Act.eval,h2]⟩
 | const c=>exact ⟨c,ju h,rfl⟩
 | global g=>simp [opd] at h;subst h;exact ⟨_,rfl,rfl⟩
 | func f=>simp [opd] at h;subst h;exact ⟨.func (.func f) #[] #[],by simp [conc,cE],rfl⟩
theorem kE {μ:Mu} {fr:Fr} {a:Act} (k:FR ρ μ fr a):∀{l:List Operand} {vs:List V},jf fr l=some vs→cE ρ μ vs=some (l.map a.eval)
 | [],vs,h=>by simp [jf] at h;subst h;simp [cE]
 | x::r,vs,h=>by
  simp only [jf] at h
  cases hx:opd fr x with
  | none=>simp [hx] at h
  | some v =>
   cases hr:jf fr r with
   | none=>simp [hx,hr] at h
   | some vs' =>
    simp [hx,hr] at h;subst h;obtain ⟨X,h1,h2⟩:=cJ k hx;exact eM (by rw [h2];exact h1) (kE k hr)
theorem FR.put {μ:Mu} {fr fr':Fr} {a:Act} {dst:Option Nat} {v:V} {X:Value} (k:FR ρ μ fr a) (h:fr.put dst v=some fr') (hv:conc ρ μ v=some X):FR ρ μ fr' (a.put dst X):=by
 cases dst with
 | none=>simp [Fr.put] at h;subst h;exact k
 | some d =>
  simp only [Fr.put] at h
  by_cases hd:d<fr.nt
  ·have:Nat.blt d fr.nt=true:=by simpa [Nat.blt_eq] using hd
   rw [this] at h;simp at h;subst h;refine ⟨fun t u hu=>?_,by simpa [Act.put] using k.size,k.defs⟩;simp only [T.get_set] at hu
   by_cases e:t=d
   ·rw [if_pos e] at hu;injection hu with hu;subst hu e;exact ⟨X,hv,by simp [Act.put,k.size,hd]⟩
   ·rw [if_neg e] at hu;obtain ⟨Y,h1,h2⟩:=k.tmps t u hu;exact ⟨Y,h1,by simp [Act.put,Array.getElem?_setIfInBounds_ne (Ne.symm e),h2]⟩
  ·cases hb:Nat.blt d fr.nt with
   | true=>exact absurd (by simpa using hb) hd
   | false=>rw [hb] at h;simp at h
theorem Fr.put_same {fr fr':Fr} {dst:Option Nat} {v:V} (h:fr.put dst v=some fr'):fr'.nt=fr.nt∧fr'.mks=fr.mks∧fr'.fn=fr.fn∧fr'.rnd=fr.rnd:=by
 cases dst with
 | none=>simp [Fr.put] at h;subst h;exact ⟨rfl,rfl,rfl,rfl⟩
 | some d =>
  simp only [Fr.put] at h
  cases hb:Nat.blt d fr.nt<;>simp [hb] at h
  subst h;exact ⟨rfl,rfl,rfl,rfl⟩
end
section
variable {P : Program} {E : Env} {ρ : Rho} {μ : Mu}
theorem cR (hE:EnvOk P E) {t:Nat} {i:TI} (h:E.tys.get t=some i) (w:World):(underlying t).run P w=.ok i.desc w:=by
 obtain ⟨inf,z,v,h1,h2,_⟩:=hE.ty h;exact run_underlying h2 w
theorem Bc (hE:EnvOk P E) {t:Nat} {i:TI} (h:E.tys.get t=some i) (w:World) :
  ∃inf,(typeInfo t).run P w=.ok inf w∧P.info? t=some inf∧inf.size=i.size∧inf.bytes=i.bytes∧inf.comparable=i.cmp:=by
 obtain ⟨inf,z,v,h1,h2,h3,h4,h5,h6,h7,h8,h9⟩:=hE.ty h;exact ⟨inf,by simp [typeInfo,h1],h1,h3,h4,h9.1⟩
theorem gO (hE:EnvOk P E) {t:Nat} {i:TI} (h:E.tys.get t=some i) (w:World):(sizeOf t).run P w=.ok i.size w:=by
 obtain ⟨inf,h1,_,h2,_⟩:=Bc hE h w;simp [sizeOf,h1,h2]
theorem fV (hE:EnvOk P E) {t s:Nat} (h:dy E t=some s) (w:World):(sizeOf t).run P w=.ok s w:=by
 obtain ⟨i,hi,rfl⟩:=aR.1 h;exact gO hE hi w
theorem rc (hE:EnvOk P E) {t:Nat} {i:TI} (h:E.tys.get t=some i) (w:World):(isAgg t).run P w=.ok i.agg w:=by
 have:=cR hE h w;unfold isAgg TI.agg;simp only [Sem.run_bind,this,Result.andThen_ok]
 cases i.desc<;>rfl
theorem qn (hE:EnvOk P E) {t:Nat} {i:TI} (h:E.tys.get t=some i):∃Z,(∀w,(zeroValue t).run P w=.ok Z w)∧conc ρ μ i.zv=some Z∧i.zero=i.zv.cells∧i.zero.length=i.size:=by
 obtain ⟨inf,z,v,h1,h2,h3,h4,h5,h6,h7,h8,h9⟩:=hE.ty h;refine ⟨z,fun w=>?_,by rw [h8];exact ju h6,by rw [h7,h8],h9.2⟩;simp [zeroValue,typeInfo,h1,h5]
theorem oU (hE:EnvOk P E) {ty off:Nat} {cs:List V} {v:V} {X:List Value} (h:oa E ty cs off=some v) (hc:cE ρ μ cs=some X) :
  ∃Y,conc ρ μ v=some Y∧∀w,(part ty X.toArray off).run P w=.ok Y w:=by
 unfold oa at h
 cases hi:E.tys.get ty with
 | none=>simp [hi] at h
 | some i =>
  simp only [hi] at h
  cases hg:i.agg with
  | true =>
   simp [hg] at h;subst h;refine ⟨.agg ((X.drop off).take i.size).toArray,by simp [conc,xW _ (s9 _ hc)],fun w=>?_⟩;simp [part,rc hE hi w,hg,gO hE hi w]
  | false =>
   simp [hg] at h;rw [jO] at h;obtain ⟨Y,h1,h2⟩:=fX hc h;refine ⟨Y,h2,fun w=>?_⟩;simp [part,rc hE hi w,hg,h1]
theorem mV {v:V} {n:Nat} (h:j0 v=some n):∃k,v=.int k (n:Int):=by
 unfold j0 at h
 split at h
 ·split at h
  ·injection h with h;subst h;exact ⟨_,rfl⟩
  ·cases h
 ·cases h
theorem gi {b o:Nat} {X:Value} (h:conc ρ μ (.ptr b o)=some X):∃x,μ b=some x∧X=.pointer (some ⟨x.1,o,none⟩):=by
 obtain ⟨x,hx,rfl⟩:=aR.1 (by simpa only [conc] using h);exact ⟨x,hx,rfl⟩
theorem xU {b o n:Nat} {c:Cp} {X:Value} (h:conc ρ μ (.slice b o n c)=some X):∃x,μ b=some x∧gg x o n c=some X:=by
 simpa only [conc,Option.bind_eq_some_iff] using h
theorem iO {a:Addr} {n c:Nat} {X:Value} (h:conc ρ μ (.gsl a n c)=some X):n≤c∧X=.slice (some a) n c:=by
 simp only [conc] at h
 split at h
 ·rename_i hle;injection h with h;exact ⟨hle,h.symm⟩
 ·cases h
theorem nE {b o n c:Nat} {X:Value} (h:conc ρ μ (.slice b o n (.lit c))=some X):∃x,μ b=some x∧n≤c∧X=.slice (some ⟨x.1,o,none⟩) n c:=by
 obtain ⟨x,hx,h⟩:=xU h;simp only [gg] at h
 split at h
 ·rename_i hn;injection h with h;exact ⟨x,hx,hn,h.symm⟩
 ·cases h
theorem qP {b o n e o':Nat} {X:Value} (h:conc ρ μ (.slice b o n (.opn e o'))=some X) :
  ∃x,μ b=some x∧n≤x.2 - e∧X=.slice (some ⟨x.1,if x.2 - e=0 then o' else o,none⟩) n (x.2 - e):=by
 obtain ⟨x,hx,h⟩:=xU h;simp only [gg] at h
 split at h
 ·rename_i hn;injection h with h;exact ⟨x,hx,hn,h.symm⟩
 ·cases h
theorem kq {b o n:Nat} {c:Cp} {X:Value} (h:conc ρ μ (.slice b o n c)=some X) (hn:0<n):∃x m,μ b=some x∧X=.slice (some ⟨x.1,o,none⟩) n m:=by
 cases c with
 | lit c=>obtain ⟨x,hx,_,rfl⟩:=nE h;exact ⟨x,c,hx,rfl⟩
 | opn e o' =>
  obtain ⟨x,hx,h1,rfl⟩:=qP h;exact ⟨x,_,hx,by rw [if_neg (by omega)]⟩
theorem jG {b:Nat} {X:Value} (h:conc ρ μ (.map b)=some X):∃x,μ b=some x∧X=.map (some x.1):=by
 obtain ⟨x,hx,rfl⟩:=aR.1 (by simpa only [conc] using h);exact ⟨x,hx,rfl⟩
theorem gV {cs:List V} {X:Value} (h:conc ρ μ (.agg cs)=some X):∃l,cE ρ μ cs=some l∧X=.agg l.toArray:=by
 simp only [conc] at h
 cases hc:cE ρ μ cs with
 | none=>simp [hc] at h
 | some l=>simp [hc] at h;exact ⟨l,rfl,h.symm⟩
theorem jn {t:Nat} {v:V} {X:Value} (h:conc ρ μ (.iface t v)=some X):∃Y,conc ρ μ v=some Y∧X=.iface t Y:=by
 simp only [conc] at h
 cases hc:conc ρ μ v with
 | none=>simp [hc] at h
 | some l=>simp [hc] at h;exact ⟨l,rfl,h.symm⟩
theorem mC {f:Nat} {a c:List V} {X:Value} (h:conc ρ μ (.func f a c)=some X):∃A C,cE ρ μ a=some A∧cE ρ μ c=some C∧X=.func (.func f) A.toArray C.toArray:=by
 simp only [conc] at h
 cases ha:cE ρ μ a with
 | none=>simp [ha] at h
 | some A =>
  cases hc:cE ρ μ c with
  | none=>simp [ha,hc] at h
  | some C=>simp [ha,hc] at h;exact ⟨A,C,rfl,rfl,h.symm⟩
theorem yv (hE:EnvOk P E) {s f:Nat} {x v:V} {X:Value} (h:cu E s x f=some v) (hx:conc ρ μ x=some X) :
  ∃Y,conc ρ μ v=some Y∧∀w,(Instr.fieldAt s X f).run P w=.ok Y w:=by
 unfold cu at h
 cases hi:E.tys.get s with
 | none=>simp [hi] at h
 | some i =>
  simp only [hi] at h
  split at h
  ·rename_i fs b o hd
   split at h
   ·rename_i fd hf;rw [jO] at hf
    split at h
    ·cases h
    ·rename_i s' hs hne;injection h with h;subst h;obtain ⟨y,hy,rfl⟩:=gi hx;refine ⟨.pointer (some ⟨y.1,o+fd.offset,none⟩),by simp [conc,hy],fun w=>?_⟩;have hz:¬s'=0:=hs;have hf':fs[f]?=some fd:=by rw [←Array.getElem?_toList];exact hf
     simp [Instr.fieldAt,cR hE hi w,hd,hf',Instr.sureAddr,fieldPlace,fV hE hne w,hz];exact Addr.add_lit _ _ _
    ·cases h
   ·cases h
  ·rename_i fs b o hd
   split at h
   ·rename_i fd hf;rw [jO] at hf
    split at h
    ·cases h
    ·rename_i s' hs hne;injection h with h;subst h;simp only [conc] at hx;injection hx with hx;subst hx;refine ⟨.pointer (some ⟨b,o+fd.offset,none⟩),by simp [conc],fun w=>?_⟩;have hz:¬s'=0:=hs;have hf':fs[f]?=some fd:=by rw [←Array.getElem?_toList];exact hf
     simp [Instr.fieldAt,cR hE hi w,hd,hf',Instr.sureAddr,fieldPlace,fV hE hne w,hz];exact Addr.add_lit _ _ _
    ·cases h
   ·cases h
  ·cases h
theorem Gl (hE:EnvOk P E) {s f:Nat} {x v:V} {X:Value} (h:uC E s x f=some v) (hx:conc ρ μ x=some X) :
  ∃Y,conc ρ μ v=some Y∧∀w,(Instr.field s X f).run P w=.ok Y w:=by
 unfold uC at h
 cases hi:E.tys.get s with
 | none=>simp [hi] at h
 | some i =>
  simp only [hi] at h
  split at h
  ·rename_i fs cs hd
   split at h
   ·rename_i fd hf;rw [jO] at hf;obtain ⟨l,hl,rfl⟩:=gV hx;obtain ⟨Y,h1,h2⟩:=oU hE h hl;refine ⟨Y,h1,fun w=>?_⟩;have hf':fs[f]?=some fd:=by rw [←Array.getElem?_toList];exact hf
    simp [Instr.field,cR hE hi w,hd,hf',asAgg,h2]
   ·cases h
  ·cases h
theorem yu (hE:EnvOk P E) {t:Nat} {x ix v:V} {X I:Value} (h:cK E t x ix=some v) (hx:conc ρ μ x=some X) (hix:conc ρ μ ix=some I) :
  ∃Y,conc ρ μ v=some Y∧∀w,(Instr.indexAt t X I).run P w=.ok Y w:=by
 unfold cK at h
 split at h
 ·rename_i i k hi hk;obtain ⟨kk,rfl⟩:=mV hk;simp only [conc] at hix;injection hix with hix;subst hix
  split at h
  ·rename_i n e b o hd
   by_cases hlt:k<n
   ·have hb:Nat.blt k n=true:=by simpa using hlt
    rw [hb] at h;obtain ⟨s,hs,rfl⟩:=aR.1 (by simpa using h);obtain ⟨y,hy,rfl⟩:=gi hx;refine ⟨.pointer (some ⟨y.1,o+k * s,none⟩),by simp [conc,hy],fun w=>?_⟩;simp [Instr.indexAt,asIntOf,cR hE hi w,hd,Instr.sureAddr,hlt,fV hE hs w];exact Addr.add_lit _ _ _
   ·cases hb:Nat.blt k n with
    | true=>exact absurd (by simpa using hb) hlt
    | false=>rw [hb] at h;simp at h
  ·rename_i n e b o hd
   by_cases hlt:k<n
   ·have hb:Nat.blt k n=true:=by simpa using hlt
    rw [hb] at h;obtain ⟨s,hs,rfl⟩:=aR.1 (by simpa using h);simp only [conc] at hx;injection hx with hx;subst hx;refine ⟨.pointer (some ⟨b,o+k * s,none⟩),by simp [conc],fun w=>?_⟩;simp [Instr.indexAt,asIntOf,cR hE hi w,hd,Instr.sureAddr,hlt,fV hE hs w];exact Addr.add_lit _ _ _
   ·cases hb:Nat.blt k n with
    | true=>exact absurd (by simpa using hb) hlt
    | false=>rw [hb] at h;simp at h
  ·rename_i e b o n c hd
   by_cases hlt:k<n
   ·have hb:Nat.blt k n=true:=by simpa using hlt
    rw [hb] at h;obtain ⟨s,hs,rfl⟩:=aR.1 (by simpa using h);obtain ⟨y,m,hy,rfl⟩:=kq hx (by omega);refine ⟨.pointer (some ⟨y.1,o+k * s,none⟩),by simp [conc,hy],fun w=>?_⟩;simp [Instr.indexAt,asIntOf,cR hE hi w,hd,hlt,fV hE hs w];exact Addr.add_lit _ _ _
   ·cases hb:Nat.blt k n with
    | true=>exact absurd (by simpa using hb) hlt
    | false=>rw [hb] at h;simp at h
  ·rename_i e ad n c hd
   by_cases hlt:k<n
   ·have hb:Nat.blt k n=true:=by simpa using hlt
    rw [hb] at h;simp only [cond_true] at h;obtain ⟨g,o,sp⟩:=ad
    cases sp with
    | some sp=>cases h
    | none =>
     obtain ⟨s,hs,rfl⟩:=aR.1 h;obtain ⟨_,rfl⟩:=iO hx;refine ⟨.pointer (some ⟨g,o+k * s,none⟩),by simp [conc],fun w=>?_⟩;simp [Instr.indexAt,asIntOf,cR hE hi w,hd,hlt,fV hE hs w];exact Addr.add_lit _ _ _
   ·cases hb:Nat.blt k n with
    | true=>exact absurd (by simpa using hb) hlt
    | false=>rw [hb] at h;simp at h
  ·cases h
 ·cases h
end
section
variable {P : Program} {E : Env} {ρ : Rho} {μ : Mu}
theorem rsb (k:IntKind) {i y:Nat} (h:i≤y) (code:BoundsCode) (w:World):(Instr.sliceBound (.int k (i:Int)) y code).run P w=.ok i w:=by
 simp [Instr.sliceBound,asIntOf,h]
def Bnd (d l h:Nat):Option Value→Prop
 | none=>l=d
 | some v=>(∃k,v=.int k (l:Int))∧l≤h
theorem Bnd.none {d h:Nat}:Bnd d d h Option.none:=rfl
theorem Bnd.some {d l h:Nat} (k:IntKind) (e:l≤h):Bnd d l h (Option.some (.int k (l:Int))):=⟨⟨k,rfl⟩,e⟩
theorem kB {isSlice:Bool} {len cap l h m:Nat} {lo hi mx:Option Value}
  (hm:Bnd cap m cap mx) (hh:Bnd len h m hi) (hn:hi=none→mx=none) (hl:Bnd 0 l h lo) (w:World) :
  (Instr.sliceBounds isSlice len cap lo hi mx).run P w=.ok (l,h,m) w:=by
 cases mx with
 | none =>
  simp only [Bnd] at hm;subst hm
  cases hi with
  | none =>
   simp only [Bnd] at hh;subst hh
   cases lo with
   | none=>simp only [Bnd] at hl;subst hl;simp [Instr.sliceBounds]
   | some v =>
    obtain ⟨⟨k,rfl⟩,h1⟩:=hl;simp [Instr.sliceBounds,rsb k h1]
  | some u =>
   obtain ⟨⟨k',rfl⟩,h2⟩:=hh
   cases lo with
   | none=>simp only [Bnd] at hl;subst hl;simp [Instr.sliceBounds,rsb k' h2]
   | some v =>
    obtain ⟨⟨k,rfl⟩,h1⟩:=hl;simp [Instr.sliceBounds,rsb k h1,rsb k' h2]
 | some z =>
  obtain ⟨⟨k'',rfl⟩,h3⟩:=hm
  cases hi with
  | none=>exact absurd (hn rfl) (by simp)
  | some u =>
   obtain ⟨⟨k',rfl⟩,h2⟩:=hh
   cases lo with
   | none=>simp only [Bnd] at hl;subst hl;simp [Instr.sliceBounds,rsb k' h2,rsb k'' h3]
   | some v =>
    obtain ⟨⟨k,rfl⟩,h1⟩:=hl;simp [Instr.sliceBounds,rsb k h1,rsb k' h2,rsb k'' h3]
def CO (ρ:Rho) (μ:Mu) (v:Option V) (X:Option Value):Prop :=
 match v,X with
 | none,none=>True
 | some v,some X=>conc ρ μ v=some X
 | _,_=>False
theorem CO.nat {v:V} {X:Option Value} {n:Nat} (h:CO ρ μ (some v) X) (hn:j0 v=some n):∃k,X=some (.int k (n:Int)):=by
 obtain ⟨k,rfl⟩:=mV hn
 cases X with
 | none=>exact h.elim
 | some X=>simp only [CO,conc] at h;injection h with h;exact ⟨k,by rw [h]⟩
theorem CO.none {X:Option Value} (h:CO ρ μ none X):X=none:=by cases X with|none=>rfl|some _=>exact h.elim
theorem cI {α:Type} {b:Bool} {x:Option α} {v:α} (h:(bif b then x else none)=some v):b=true∧x=some v:=by
 cases b
 ·cases h
 ·exact ⟨rfl,h⟩
theorem yc (m l o o':Nat):(bif Nat.beq m l then o else o')=if m=l then o else o':=by
 by_cases e:m=l
 ·subst e;simp
 ·have:Nat.beq m l=false:=by
   cases hb:Nat.beq m l with
   | false=>rfl
   | true=>exact absurd (aS hb) e
  simp [this,e]
def vw (x:Nat×Nat) (o:Nat):Cp→Nat
 | .lit _=>o
 | .opn e o'=>if x.2 - e=0 then o' else o
def pt (x:Nat×Nat):Cp→Nat
 | .lit c=>c
 | .opn e _=>x.2 - e
theorem tr {size b o n l h:Nat} {c:Cp} {m:Option Nat} {v:V} (hv:j6 size b o n c l h m=some v) {x:Nat×Nat} (hx:μ b=some x) (hle:n≤pt x c) (hlh:l≤h) :
  h≤m.getD (pt x c)∧m.getD (pt x c)≤pt x c ∧
   conc ρ μ v=some (.slice (some (if m.getD (pt x c)=l then ⟨x.1,vw x o c,none⟩ else ⟨x.1,vw x o c+l * size,none⟩)) (h - l) (m.getD (pt x c) - l)):=by
 cases m with
 | none =>
  cases c with
  | lit c =>
   simp only [j6,pt,vw,Option.getD] at *;obtain ⟨h1,h2⟩:=cI hv;have h1:=aZ h1;injection h2 with h2;subst h2;refine ⟨h1,aI _,?_⟩;simp only [conc,hx,bQ,gg,yc];rw [if_pos (by omega)]
   by_cases e:c=l<;>simp [e]
  | opn e o' =>
   simp only [j6,pt,vw,Option.getD] at *;obtain ⟨h1,h2⟩:=cI hv;have h1:=aZ h1;refine ⟨by omega,aI _,?_⟩
   cases l with
   | zero =>
    simp only at h2;injection h2 with h2;subst h2;simp only [conc,hx,bQ,gg,Nat.sub_zero,Nat.zero_mul,Nat.add_zero];rw [if_pos (by omega)]
    by_cases e0:x.2 - e=0<;>simp [e0]
   | succ l' =>
    simp only at h2;injection h2 with h2;subst h2;simp only [conc,hx,bQ,gg,Nat.succ_eq_add_one];rw [if_pos (by omega)];have e1:¬x.2 - e=0:=by omega
    by_cases e2:x.2 - e=l'+1
    ·have e3:x.2 - (e+(l'+1))=0:=by omega
     simp [e2,e3]
    ·have e3:¬x.2 - (e+(l'+1))=0:=by omega
     have e4:x.2 - (e+(l'+1))=x.2 - e - (l'+1):=by omega
     rw [e4] at e3 ⊢;simp [e1,e2,e3]
 | some m =>
  cases c with
  | lit c =>
   simp only [j6,pt,vw,Option.getD] at *;obtain ⟨h1,h2⟩:=cI hv;simp only [aU] at h1;have h3:=aZ h1.1;have h4:=aZ h1.2;injection h2 with h2;subst h2;refine ⟨h3,h4,?_⟩;simp only [conc,hx,bQ,gg,yc];rw [if_pos (by omega)]
   by_cases e:m=l<;>simp [e]
  | opn e o' =>
   simp only [j6,pt,vw,Option.getD] at *;obtain ⟨h1,h2⟩:=cI hv;simp only [aU] at h1;have h3:=aZ h1.1.1;have h4:=aZ h1.1.2;have h5:0<n:=by simpa using h1.2
   injection h2 with h2;subst h2;refine ⟨h3,by omega,?_⟩;simp only [conc,hx,bQ,gg,yc];rw [if_pos (by omega)];have e0:¬x.2 - e=0:=by omega
   by_cases e':m=l<;>simp [e',e0]
theorem qD {lo:Option V} {lo':Option Value} {l h:Nat} (hlo:CO ρ μ lo lo') (hl:gB (some 0) lo=some l) (hlh:l≤h) :
  Bnd 0 l h lo':=by
 cases lo with
 | none=>have:=CO.none hlo;subst this;simp [gB] at hl;exact hl.symm
 | some u=>obtain ⟨k,rfl⟩:=CO.nat hlo hl;exact Bnd.some k hlh
theorem mI {size b o n:Nat} {c:Cp} {lo hi mx:Option V} {v:V} {lo' hi' mx':Option Value} (h:iM size b o n c lo hi mx=some v)
  (hlo:CO ρ μ lo lo') (hhi:CO ρ μ hi hi') (hmx:CO ρ μ mx mx') {x:Nat×Nat} (hx:μ b=some x) (hle:n≤pt x c) :
  ∃l hh m,(∀(is:Bool) (w:World),(Instr.sliceBounds is n (pt x c) lo' hi' mx').run P w=.ok (l,hh,m) w) ∧
   conc ρ μ v=some (.slice (some (if m=l then ⟨x.1,vw x o c,none⟩ else ⟨x.1,vw x o c+l * size,none⟩)) (hh - l) (m - l)):=by
 unfold iM at h
 cases mx with
 | none =>
  have:=CO.none hmx;subst this;simp only [Option.bind_eq_some_iff] at h;obtain ⟨hh,h1,l,h2,h3⟩:=h;obtain ⟨h4,h5⟩:=cI h3;have h4:=aZ h4;obtain ⟨h6,h7,h8⟩:=tr (ρ:=ρ) h5 hx hle h4;refine ⟨l,hh,pt x c,fun is w=>kB Bnd.none ?_ (fun _=>rfl) (qD hlo h2 h4) w,h8⟩
  cases hi with
  | none=>have:=CO.none hhi;subst this;simp [gB] at h1;exact h1.symm
  | some u=>obtain ⟨k,rfl⟩:=CO.nat hhi h1;exact Bnd.some k h6
 | some z =>
  simp only [Option.bind_eq_some_iff] at h;obtain ⟨m,h0,hh,h1,l,h2,h3⟩:=h;obtain ⟨h4,h5⟩:=cI h3;have h4:=aZ h4;obtain ⟨h6,h7,h8⟩:=tr (ρ:=ρ) h5 hx hle h4;obtain ⟨km,rfl⟩:=CO.nat hmx h0
  cases hi with
  | none=>simp [gB] at h1
  | some u =>
   obtain ⟨k,rfl⟩:=CO.nat hhi h1;exact ⟨l,hh,m,fun is w=>kB (Bnd.some km h7) (Bnd.some k h6) (fun e=>by cases e) (qD hlo h2 h4) w,h8⟩
theorem sq {size:Nat} {a:Addr} {n c:Nat} {lo hi mx:Option V} {v:V} {lo' hi' mx':Option Value} (h:FS size a n c lo hi mx=some v)
  (hlo:CO ρ μ lo lo') (hhi:CO ρ μ hi hi') (hmx:CO ρ μ mx mx') :
  ∃l hh m,(∀(is:Bool) (w:World),(Instr.sliceBounds is n c lo' hi' mx').run P w=.ok (l,hh,m) w) ∧
   conc ρ μ v=some (.slice (some (if m=l then a else a.add (l * size))) (hh - l) (m - l)):=by
 unfold FS at h
 have fin:∀{l hh m:Nat},hh≤m→conc ρ μ (.gsl (bif Nat.beq m l then a else a.add (l * size)) (hh - l) (m - l))=some (.slice (some (if m=l then a else a.add (l * size))) (hh - l) (m - l)):=by
  intro l hh m h1;simp only [conc];rw [if_pos (by omega)]
  by_cases e:m=l
  ·subst e;simp
  ·have:Nat.beq m l=false:=by
    cases hb:Nat.beq m l with
    | false=>rfl
    | true=>exact absurd (aS hb) e
   simp [e,this]
 cases mx with
 | none =>
  have:=CO.none hmx;subst this;simp only [Option.bind_eq_some_iff] at h;obtain ⟨hh,h1,l,h2,h3⟩:=h;obtain ⟨h4,h5⟩:=cI h3;obtain ⟨h6,h7⟩:=cI h5;have h4:=aZ h4;have h6:=aZ h6;injection h7 with h7;subst h7;refine ⟨l,hh,c,fun is w=>kB Bnd.none ?_ (fun _=>rfl) (qD hlo h2 h4) w,fin h6⟩
  cases hi with
  | none=>have:=CO.none hhi;subst this;simp [gB] at h1;exact h1.symm
  | some u=>obtain ⟨k,rfl⟩:=CO.nat hhi h1;exact Bnd.some k h6
 | some z =>
  simp only [Option.bind_eq_some_iff] at h;obtain ⟨m,h0,hh,h1,l,h2,h3⟩:=h;obtain ⟨h4,h5⟩:=cI h3;obtain ⟨h6,h7⟩:=cI h5;have h4:=aZ h4;simp only [aU] at h6;have h8:=aZ h6.1;have h9:=aZ h6.2;injection h7 with h7;subst h7;obtain ⟨km,rfl⟩:=CO.nat hmx h0
  cases hi with
  | none=>simp [gB] at h1
  | some u =>
   obtain ⟨k,rfl⟩:=CO.nat hhi h1;exact ⟨l,hh,m,fun is w=>kB (Bnd.some km h9) (Bnd.some k h8) (fun e=>by cases e) (qD hlo h2 h4) w,fin h8⟩
end
section
variable {P : Program} {E : Env} {ρ : Rho} {μ : Mu}
theorem dI {b o n:Nat} {c:Cp} {X:Value} (h:conc ρ μ (.slice b o n c)=some X):∃x,μ b=some x∧n≤pt x c∧X=.slice (some ⟨x.1,vw x o c,none⟩) n (pt x c):=by
 cases c with
 | lit c=>obtain ⟨x,hx,h1,rfl⟩:=nE h;exact ⟨x,hx,h1,rfl⟩
 | opn e o'=>obtain ⟨x,hx,h1,rfl⟩:=qP h;exact ⟨x,hx,h1,rfl⟩
theorem uQ (s:List UInt8) (l h:Nat):(⟨s.toArray⟩:ByteArray).extract l h=⟨((s.drop l).take (h - l)).toArray⟩:=by
 apply ByteArray.ext;simp [ByteArray.data_extract]
theorem jE (s:List UInt8):(⟨s.toArray⟩:ByteArray).size=s.length:=by
 show s.toArray.size=_;simp
theorem wj {s:List UInt8} {lo hi:Option V} {v:V} {lo' hi':Option Value} (h:wo s lo hi=some v) (hlo:CO ρ μ lo lo') (hhi:CO ρ μ hi hi') :
  ∃l hh,(∀(w:World),(Instr.sliceBounds false s.length s.length lo' hi' none).run P w=.ok (l,hh,s.length) w)∧conc ρ μ v=some (.string ((⟨s.toArray⟩:ByteArray).extract l hh)):=by
 unfold wo at h
 have h1:∃hh,gB (some s.length) hi=some hh∧∃l,gB (some 0) lo=some l∧(bif Nat.ble l hh&&Nat.ble hh s.length then some (V.str ((s.drop l).take (hh - l))) else none)=some v:=by
  cases hi with
  | none=>cases lo with
   | none=>exact ⟨_,rfl,_,rfl,h⟩
   | some u =>
    simp only at h
    cases hu:j0 u with
    | none=>simp [hu] at h
    | some l=>simp only [hu] at h;exact ⟨_,rfl,l,hu,h⟩
  | some z =>
   simp only at h
   cases hz:j0 z with
   | none=>simp [hz] at h
   | some hh =>
    simp only [hz] at h
    cases lo with
    | none=>exact ⟨_,hz,_,rfl,h⟩
    | some u =>
     simp only at h
     cases hu:j0 u with
     | none=>simp [hu] at h
     | some l=>simp only [hu] at h;exact ⟨_,hz,l,hu,h⟩
 obtain ⟨hh,e1,l,e2,e3⟩:=h1;obtain ⟨h4,h5⟩:=cI e3;simp only [aU] at h4;have h6:=aZ h4.1;have h7:=aZ h4.2;injection h5 with h5;subst h5
 refine ⟨l,hh,fun w=>kB Bnd.none ?_ (fun _=>rfl) (qD hlo e2 h6) w,?_⟩
 ·cases hi with
  | none=>have:=CO.none hhi;subst this;simp [gB] at e1;exact e1.symm
  | some u=>obtain ⟨k,rfl⟩:=CO.nat hhi e1;exact Bnd.some k h7
 ·rw [uQ];simp [conc]
theorem Gg (hE:EnvOk P E) {t:Nat} {x v:V} {X:Value} {lo hi mx:Option V} {lo' hi' mx':Option Value} (h:eL E t x lo hi mx=some v) (hx:conc ρ μ x=some X)
  (hlo:CO ρ μ lo lo') (hhi:CO ρ μ hi hi') (hmx:CO ρ μ mx mx'):∃Y,conc ρ μ v=some Y∧∀w,(Instr.sliceAt t X lo' hi' mx').run P w=.ok Y w:=by
 unfold eL at h
 cases hi1:E.tys.get t with
 | none=>simp [hi1] at h
 | some i =>
  simp only [hi1] at h
  split at h
  ·rename_i s hd
   split at h
   ·have:=CO.none hmx;subst this;obtain ⟨l,hh,h1,h2⟩:=wj (P:=P) h hlo hhi;simp only [conc] at hx;injection hx with hx;subst hx;refine ⟨_,h2,fun w=>?_⟩;simp [Instr.sliceAt,Instr.slice,cR hE hi1 w,hd,h1,jE]
   ·cases h
  ·rename_i e b o n c hd
   split at h
   ·rename_i size hs;obtain ⟨y,hy,hle,rfl⟩:=dI hx;obtain ⟨l,hh,m,h1,h2⟩:=mI (P:=P) h hlo hhi hmx hy hle;refine ⟨_,h2,fun w=>?_⟩;simp [Instr.sliceAt,Instr.slice,cR hE hi1 w,hd,h1,fV hE hs w]
    split<;>simp [Addr.add_lit]
   ·cases h
  ·rename_i e ad n c hd
   split at h
   ·rename_i size hs;obtain ⟨_,rfl⟩:=iO hx;obtain ⟨l,hh,m,h1,h2⟩:=sq (P:=P) h hlo hhi hmx;refine ⟨_,h2,fun w=>?_⟩;simp [Instr.sliceAt,Instr.slice,cR hE hi1 w,hd,h1,fV hE hs w]
    try (split<;>rfl)
   ·cases h
  ·rename_i e hd;simp only [conc] at hx;injection hx with hx;subst hx
   obtain ⟨sz,hsz,h⟩:∃sz,dy E e=some sz∧zN lo hi mx=some v:=by
    cases hs:dy E e with
    | none=>simp [hs] at h
    | some sz=>simp only [hs] at h;exact ⟨sz,rfl,h⟩
   unfold zN at h;simp only at h;obtain ⟨h1,h2⟩:=cI h;injection h2 with h2;subst h2;simp only [aU] at h1;obtain ⟨⟨z1,z2⟩,z3⟩:=h1
   have zero:∀{u:Option V} {U:Option Value},CO ρ μ u U→(match u with|some v=>(match j0 v with|some 0=>true|_=>false)|none=>true)=true→Bnd 0 0 0 U:=by
    intro u U hu hz
    cases u with
    | none=>have:=CO.none hu;subst this;exact Bnd.none
    | some u =>
     simp only at hz
     split at hz
     ·rename_i hn;obtain ⟨k,rfl⟩:=CO.nat hu hn;exact Bnd.some k (aI _)
     ·cases hz
   have hb:∀(w:World),(Instr.sliceBounds true 0 0 lo' hi' mx').run P w=.ok (0,0,0) w:=by
    intro w
    refine kB (zero hmx ?_) (zero hhi z2) ?_ (zero hlo z1) w
    ·cases mx with
     | none=>rfl
     | some z=>simp only at z3;cases hi with
      | none=>simp at z3
      | some _=>exact z3
    ·intro e;subst e
     cases hi with
     | some u=>exact hhi.elim
     | none=>cases mx with
      | none=>exact CO.none hmx
      | some z=>simp at z3
   refine ⟨.slice none 0 0,by simp [conc],fun w=>?_⟩;simp [Instr.sliceAt,Instr.slice,cR hE hi1 w,hd,hb,fV hE hsz w]
  ·rename_i n e b o hd
   split at h
   ·rename_i size hs;obtain ⟨y,hy,rfl⟩:=gi hx;obtain ⟨l,hh,m,h1,h2⟩:=mI (P:=P) h hlo hhi hmx hy (by simp [pt]);simp only [pt,vw] at h1 h2;refine ⟨_,h2,fun w=>?_⟩;simp [Instr.sliceAt,cR hE hi1 w,hd,h1,fV hE hs w,Instr.sureAddr]
    split<;>simp [Addr.add_lit]
   ·cases h
  ·rename_i arr b o hd
   split at h
   ·rename_i j hj
    split at h
    ·rename_i n e hdj
     split at h
     ·rename_i size hs;obtain ⟨y,hy,rfl⟩:=gi hx;obtain ⟨l,hh,m,h1,h2⟩:=mI (P:=P) h hlo hhi hmx hy (by simp [pt]);simp only [pt,vw] at h1 h2;refine ⟨_,h2,fun w=>?_⟩;simp [Instr.sliceAt,Instr.slice,cR hE hi1 w,hd,h1,fV hE hs w,asAddr,cR hE hj w,hdj]
      split<;>simp [Addr.add_lit]
     ·cases h
    ·cases h
   ·cases h
  ·rename_i n e b o hd
   split at h
   ·rename_i size hs;simp only [conc] at hx;injection hx with hx;subst hx;obtain ⟨l,hh,m,h1,h2⟩:=sq (P:=P) h hlo hhi hmx;refine ⟨_,h2,fun w=>?_⟩;simp [Instr.sliceAt,cR hE hi1 w,hd,h1,fV hE hs w,Instr.sureAddr]
   ·cases h
  ·rename_i arr b o hd
   split at h
   ·rename_i j hj
    split at h
    ·rename_i n e hdj
     split at h
     ·rename_i size hs;simp only [conc] at hx;injection hx with hx;subst hx;obtain ⟨l,hh,m,h1,h2⟩:=sq (P:=P) h hlo hhi hmx;refine ⟨_,h2,fun w=>?_⟩;simp [Instr.sliceAt,Instr.slice,cR hE hi1 w,hd,h1,fV hE hs w,asAddr,cR hE hj w,hdj]
     ·cases h
    ·cases h
   ·cases h
  ·cases h
end
end Go.Ev
