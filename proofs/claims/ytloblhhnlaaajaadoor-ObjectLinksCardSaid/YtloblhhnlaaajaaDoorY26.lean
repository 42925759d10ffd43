/- Slices of the world's memory; laws that answer true and leave their arguments. -/
import Derived.Deep.Slices
import Derived.Carry
import Derived.OpenShut
import Derived.SizedLaws
import Derived.ChangeMaps5
import Derived.Test.YtloblhhnlaaajaaDoorY25
import Derived.Test.YtloblhhnlaaajaaDoorChecked
import Derived.Test.YtloblhhnlaaajaaDoorRows
import Derived.ProofKit
import Derived.Deep.DeepHandedRow
set_option maxRecDepth 100000
set_option linter.unusedVariables false
set_option linter.unusedSimpArgs false
set_option linter.defProp false
namespace Go.Ev
open Go Go.ChangeShapes Go.RowKit
theorem takeW {E:Env} {W:World} (hg:E.globs=gW W) {a:Addr} {vs:List V} (h:∀i (hi:i<vs.length),∃v,W.cell? (a.add i)=some v∧(∀k,tg k v=vs[i])∧(vs[i]).one=true):lG E a vs.length=some vs:=by
 rcases Nat.eq_zero_or_pos vs.length with h0|h0
 ·have:vs=[]:=by simpa using h0
  subst this;rfl
 ·obtain ⟨v0,c0,_,_⟩:=h 0 h0;have e0:a.add 0=a:=by simp [Addr.add]
  rw [e0] at c0;obtain ⟨hs,cs,hcs,k0,hk0⟩:=cellW c0
  have hcell:∀i (hi:i<vs.length),cs[a.off+i]?=some vs[i]:=fun i hi=>by
   obtain ⟨v,c,q,_⟩:=h i hi;obtain ⟨_,cs',hcs',k,hk⟩:=cellW c;have hb:(a.add i).block=a.block:=by unfold Addr.add;split<;>rfl
   have ho:(a.add i).off=a.off+i:=by unfold Addr.add;split<;>simp_all
   rw [hb,hcs] at hcs';injection hcs' with hcs';subst hcs';rw [ho] at hk;rw [hk,q]
  have hl:(cs.drop a.off).take vs.length=vs:=by
   apply List.ext_getElem?;intro i;rw [List.getElem?_take]
   split
   ·rename_i hi;rw [List.getElem?_drop,hcell i hi,List.getElem?_eq_getElem hi]
   ·rename_i hi;rw [List.getElem?_eq_none (by omega)]
  have hone:vs.all V.one=true:=by
   rw [bH];intro x hx;obtain ⟨i,hi,rfl⟩:=List.getElem_of_mem hx;exact (h i hi).choose_spec.2.2
  unfold lG
  split
  ·omega
  ·rw [hs];simp only;rw [hg,hcs];simp only;have:=uw (k:=vs.length) (l:=(cs.drop a.off).take vs.length) (by rw [hl]) (by rw [hl];exact hone);rw [this,hl]
theorem slW {E:Env} {W:World} (hg:E.globs=gW W) {h:H} {a:Addr} {n c sz:Nat} {vs:List V} (hl:vs.length=n * sz) (hnc:n≤c)
  (hc:∀i (hi:i<vs.length),∃v,W.cell? (a.add i)=some v∧(∀k,tg k v=vs[i])∧(vs[i]).one=true):Sl E h sz (.gsl a n c) n vs:=by
 refine ⟨rfl,?_,(fun _ e=>by cases e),(fun _ _ _ _ e=>by cases e),(fun a m c e=>by injection e with _ e1 e2;omega)⟩;simp only [cX,cQ (aI n),cond_true];rw [←hl];exact takeW hg hc
theorem Hn {ρ:Rho} {μ:Mu} {a:Addr} {n c:Nat} (h:n≤c):conc ρ μ (.gsl a n c)=some (.slice (some a) n c):=by
 simp only [conc,if_pos h]
theorem JK {k:Nat} {a:Addr} {n c:Nat} (h:n≤c):tg k (.slice (some a) n c)=.gsl a n c:=by
 simp only [tg,if_pos h]
section
variable {H : Type} {enc : TypeId × Value → H} {P : Program}
def Wts (P:Program) (t:TypeId) (d:DataW H):Prop:=∀n∈d.weights P t,n≤reachBytes
theorem HA {ts:List TypeId} {ds:List (DataW H)} (h:(DataW.weightsEach P ts ds).all (·≤reachBytes)=true) {j:Nat} {t:TypeId} {d:DataW H} (ht:ts[j]?=some t) (hd:ds[j]?=some d):Wts P t d:=fun n hn=>by
 have:=bH.1 h _ (DataW.weights_mem_each ht hd n hn);simpa using this
theorem FD {t e:TypeId} {xs sp:List (DataW H)} (h:Wts P t (.slice xs sp)) (hu:P.underlying t=some (.slice e)):(xs.length+sp.length) * P.bytesOf e≤reachBytes :=
 h _ (by simp [DataW.weights,hu])
theorem qj {e:TypeId}:∀{xs:List (DataW H)} {d:DataW H},d∈xs→∀n∈d.weights P e,n∈DataW.weightsAll P e xs
 | x::xs,d,h,n,hn=>by
  simp only [DataW.weightsAll,bN]
  rcases aW.1 h with rfl|h
  ·exact .inl hn
  ·exact .inr (qj h n hn)
theorem Hz {t e:TypeId} {xs sp:List (DataW H)} (h:Wts P t (.slice xs sp)) (hu:P.underlying t=some (.slice e)) {d:DataW H} (hd:d∈xs):Wts P e d:=fun n hn =>
 h n (by simp only [DataW.weights,hu,aW,bN];exact .inr (.inl (qj hd n hn)))
theorem oN {t:TypeId} {fs:Array Field} {ds:List (DataW H)} (h:Wts P t (.agg ds)) (hu:P.underlying t=some (.struct fs)) {j:Nat} {u:TypeId} {d:DataW H} (hj:(fs.toList.map (·.type))[j]?=some u) (hd:ds[j]?=some d):Wts P u d:=fun n hn =>
 h n (by simp only [DataW.weights,hu];exact DataW.weights_mem_each hj hd n hn)
theorem tC:reachBytes=140737488351232:=by decide
structure AbsC (c:Value) (v:V):Prop where
 abs:∀k,tg k c=v
 one:v.one=true
 conc:∀(ρ:Rho) (μ:Mu),Ev.conc ρ μ v=some c
theorem AbsC.int {k:IntKind} {n:Int}:AbsC (.int k n) (.int k n):=⟨fun _=>rfl,rfl,fun _ _=>rfl⟩
theorem AbsC.bool {b:Bool}:AbsC (.bool b) (.bool b):=⟨fun _=>rfl,rfl,fun _ _=>rfl⟩
theorem AbsC.str {s:ByteArray}:AbsC (.string s) (.str s.data.toList):=⟨fun _=>rfl,rfl,fun _ _=>rfl⟩
theorem AbsC.nils:AbsC (.slice none 0 0) .nils:=⟨fun _=>rfl,rfl,fun _ _=>rfl⟩
theorem AbsC.gsl {a:Addr} {n c:Nat} (h:n≤c):AbsC (.slice (some a) n c) (.gsl a n c):=⟨fun _=>JK h,rfl,fun _ _=>Hn h⟩
theorem vd {α:Type} {f:α→List V} {sz:Nat}:∀{L:List α},(∀q∈L,(f q).length=sz)→∀{i j:Nat},j<sz→(L.flatMap f)[i * sz+j]?=L[i]?.bind fun q=>(f q)[j]?
 | [],_,i,j,_=>by simp
 | q::L,h,0,j,hj=>by
  have h0:=h q (aT ..);simp only [bM,Nat.zero_mul,aH,List.getElem?_cons_zero,bQ];rw [List.getElem?_append_left (by omega)]
 | q::L,h,i+1,j,hj=>by
  have h0:=h q (aT ..);have:=vd (L:=L) (fun x hx=>h x (aM _ hx)) (i:=i) hj;simp only [bM,List.getElem?_cons_succ];rw [List.getElem?_append_right (by rw [Nat.add_mul];omega),h0,show (i+1) * sz+j - sz=i * sz+j by rw [Nat.add_mul];omega];exact this
theorem vc {α:Type} {f:α→List V} {sz:Nat}:∀{L:List α},(∀q∈L,(f q).length=sz)→(L.flatMap f).length=L.length * sz
 | [],_=>by simp
 | q::L,h=>by
  have h0:=h q (aT ..);have:=vc (L:=L) (fun x hx=>h x (aM _ hx));simp only [bM,aQ,aO];rw [Nat.add_mul];omega
theorem EQ {α:Type} {G:Nat→α→Prop}:∀(n:Nat),(∀i,i<n→∃q,G i q)→∃L:List α,L.length=n∧∀(i:Nat) q,L[i]?=some q→G i q
 | 0,_=>⟨[],rfl,fun i q h=>by simp at h⟩
 | n+1,h=>by
  obtain ⟨L,h1,h2⟩:=EQ n fun i hi=>h i (by omega);obtain ⟨q,hq⟩:=h n (by omega);refine ⟨L++[q],by simp [h1],fun i x hx=>?_⟩
  by_cases hi:i<n
  ·rw [List.getElem?_append_left (by omega)] at hx;exact h2 i x hx
  ·rw [List.getElem?_append_right (by omega)] at hx
   have e:i - L.length=0:=by
    rcases Nat.eq_zero_or_pos (i - L.length) with e|e
    ·exact e
    ·rw [List.getElem?_eq_none (by simp;omega)] at hx;cases hx
   rw [e] at hx;injection hx with hx;subst hx;have:i=n:=by omega
   rw [this];exact hq
theorem wi {α:Type} {E:Env} {W:World} (hg:E.globs=gW W) {base:Nat} {sp:Nat→Bool} {held:Bool} {t e:TypeId} {sz:Nat} (ht:P.underlying t=some (.slice e)) (hc:P.cellsOf e=sz) (hsz:0<sz) {f:α→List V} {Pr:α→Prop}
  (hel:∀n cs' y,DataW.trod enc P W base sp held n e cs'=some y→Wts P e y.1→∃q,Pr q∧(f q).length=sz∧∀(j:Nat) c,cs'[j]?=some c→∃v,(f q)[j]?=some v∧AbsC c v)
  {fuel:Nat} {cs:List Value} {x:DataW H×List MemPlace} (h:DataW.trod enc P W base sp held fuel t cs=some x) (hw:Wts P t x.1) :
  ∃c v,∃L:List α,cs=[c]∧AbsC c v∧(∀q∈L,Pr q)∧L.length * P.bytesOf e≤reachBytes∧(∀hp,Sl E hp sz v L.length (L.flatMap f))∧∀b o n k,v≠.slice b o n k:=by
 rcases Go.Deep.open_slice ht h with ⟨rfl,rfl⟩|⟨a,len,cap,m,n,D,Pl,rfl,hb,hl,hm,hmm,rfl,hx⟩
 ·exact ⟨_,.nils,[],rfl,AbsC.nils,(fun _ h=>by cases h),by simp,fun hp=>Sl.nil,fun _ _ _ _ h=>by cases h⟩
 ·rw [hc] at hx;have hlm:len≤m:=by rw [hmm];split<;>omega
  obtain ⟨L,hL,hG⟩:=EQ (G:=fun i q=>Pr q∧(f q).length=sz∧∀j,j<sz→∃c v,W.cell? (a.add (i * sz+j))=some c∧(f q)[j]?=some v∧AbsC c v) len (fun i hi=>by
   obtain ⟨cs',h1,h2⟩:=hx i (by omega);obtain ⟨_,hlen,hcell⟩:=World.cells?_some h1;obtain ⟨q,q1,q2,q3⟩:=hel n cs' _ h2 (Hz hw ht (bP.2 ⟨i,List.mem_range.2 hi,rfl⟩));refine ⟨q,q1,q2,fun j hj=>?_⟩;have hj':j<cs'.length:=by omega
   obtain ⟨v,v1,v2⟩:=q3 j cs'[j] (List.getElem?_eq_getElem hj');refine ⟨cs'[j],v,?_,v1,v2⟩;have:=hcell j (by omega);rw [Addr.add_add,List.getElem?_eq_getElem hj'] at this
   exact this)
  have hall:∀q∈L,Pr q∧(f q).length=sz:=fun q hq=>by
   obtain ⟨i,hi⟩:=List.getElem?_of_mem hq;exact ⟨(hG i q hi).1,(hG i q hi).2.1⟩
  have hfl:=vc (L:=L) fun q hq=>(hall q hq).2
  refine ⟨_,.gsl a len cap,L,rfl,AbsC.gsl hl,fun q hq=>(hall q hq).1,?_,fun hp=>?_,fun _ _ _ _ h=>by cases h⟩
  ·have:=FD hw ht;simp only [bO,List.length_range] at this;rw [hL];exact Nat.le_trans (Nat.mul_le_mul_right _ (Nat.le_add_right _ _)) this
  ·have hlen:=hL;subst hlen;refine slW hg hfl hl fun i hi=>?_;rw [hfl] at hi;have e1:i=i / sz * sz+i % sz:=by rw [Nat.mul_comm];exact (Nat.div_add_mod i sz).symm
   have hq:i / sz<L.length:=Nat.div_lt_of_lt_mul (by rw [Nat.mul_comm];exact hi);have hr:i % sz<sz:=Nat.mod_lt _ hsz;obtain ⟨_,_,g3⟩:=hG (i / sz) L[i / sz] (List.getElem?_eq_getElem hq);obtain ⟨c,v,c1,c2,c3⟩:=g3 (i % sz) hr
   have hv:(L.flatMap f)[i]?=some v:=by
    rw [e1,vd (fun q hq=>(hall q hq).2) hr,List.getElem?_eq_getElem hq];exact c2
   rw [←e1] at c1
   refine ⟨c,c1,fun k=>?_,?_⟩
   ·have:=List.getElem?_eq_getElem (l:=L.flatMap f) (i:=i) (by rw [hfl];exact hi);rw [hv] at this;injection this with this;rw [←this];exact c3.abs k
   ·have:=List.getElem?_eq_getElem (l:=L.flatMap f) (i:=i) (by rw [hfl];exact hi);rw [hv] at this;injection this with this;rw [←this];exact c3.one
theorem fld {W:World} {base:Nat} {sp:Nat→Bool} {held:Bool} {m:Nat} {cs:List Value} {xs:List (DataW H×List MemPlace)} {fs:Array Field} (hi:∀(i:Nat) (f:Field),fs[i]?=some f→DataW.trod enc P W base sp held m f.type ((cs.drop f.offset).take (P.cellsOf f.type))=xs[i]?)
  (i t o:Nat) {n:Nat} {f:Field} (hf:fs[i]?=some f) (ht:f.type=t) (ho:f.offset=o) (hc:P.cellsOf t=n):DataW.trod enc P W base sp held m t ((cs.drop o).take n)=xs[i]?:=by
 subst ht ho hc;exact hi i f hf
theorem Jn {k:IntKind} {W:World} {base:Nat} {sp:Nat→Bool} {held:Bool} {e:TypeId} (he:P.underlying e=some (.int k)) (n:Nat) (cs':List Value) (y:DataW H×List MemPlace) (h:DataW.trod enc P W base sp held n e cs'=some y) :
  ∃q:Int,(Lit.int k q).wf=true∧([V.int k q]:List V).length=1∧∀(j:Nat) c,cs'[j]?=some c→∃v,([V.int k q]:List V)[j]?=some v∧AbsC c v:=by
 obtain ⟨q,rfl,_,hq⟩:=DataW.trod_int he h;refine ⟨q,hq,rfl,fun j c hj=>?_⟩
 cases j with
 | zero=>injection hj with hj;subst hj;exact ⟨_,rfl,AbsC.int⟩
 | succ j=>simp at hj
theorem wf_u8 {q:Int} (h:(Lit.int .u8 q).wf=true):0≤q∧q<256:=by
 have e1:IntKind.u8.min=0:=rfl;have e2:IntKind.u8.max=255:=rfl;simp only [Lit.wf,e1,e2,aU,decide_eq_true_eq] at h;omega
theorem tY {q:Int} (h:(Lit.int .i64 q).wf=true):-9223372036854775808≤q∧q≤9223372036854775807:=by
 have e1:IntKind.i64.min=-9223372036854775808:=rfl;have e2:IntKind.i64.max=9223372036854775807:=rfl;simp only [Lit.wf,e1,e2,aU,decide_eq_true_eq] at h;omega
theorem Jy {E:Env} {W:World} (hg:E.globs=gW W) {base:Nat} {sp:Nat→Bool} {held:Bool} {t e:TypeId} (ht:P.underlying t=some (.slice e)) (he:P.underlying e=some (.int .u8)) (hc:P.cellsOf e=1)
  {fuel:Nat} {cs:List Value} {x:DataW H×List MemPlace} (h:DataW.trod enc P W base sp held fuel t cs=some x) (hw:Wts P t x.1) :
  ∃c v,∃xs:List UInt8,cs=[c]∧AbsC c v∧xs.length * P.bytesOf e≤reachBytes∧(∀hp,Sl E hp 1 v xs.length (xs.map fun c=>V.int .u8 c.toNat))∧∀b o n k,v≠.slice b o n k:=by
 obtain ⟨c,v,L,h1,h2,_,h4,h5,h6⟩:=wi (α:=UInt8) (Pr:=fun _=>True) (f:=fun c=>[V.int .u8 c.toNat]) hg ht hc (by decide) (fun n cs' y hy _=>by
  obtain ⟨q,q1,q2,q3⟩:=Jn he n cs' y hy;have hq:=wf_u8 q1;have e:(((UInt8.ofNat q.toNat).toNat:Nat):Int)=q:=by rw [UInt8.toNat_ofNat'];omega
  exact ⟨UInt8.ofNat q.toNat,aD,rfl,fun j c hj=>by simp only [e];exact q3 j c hj⟩) h hw
 refine ⟨c,v,L,h1,h2,h4,fun hp=>?_,h6⟩;have:=h5 hp;rwa [←List.map_eq_flatMap] at this
theorem Jx {E:Env} {ρ:Rho} (hE:EnvOk P E) (hp:Plain ρ) {f:Nat} {args:List V} {A:List Value} (hf:(E.fns.get f).isSome=true) (hw:WF E f args h0 fun v _=>v=.bool true) (ha:cE ρ (fun _=>none) args=some A) {w:World} (hg:vq E ρ w) :
  Calls P f A.toArray w fun e w'=>e=.returned (.bool true)∧Below w.heap.size w w':=by
 obtain ⟨N,l,h1,h2⟩:=hw
 cases N with
 | zero=>cases h1
 | succ n =>
  refine DM hE hp n f hf ?_ ha hg;unfold vN;rw [h1];simp only [bH];intro x hx;rw [h2 x hx];rfl
theorem rQ (hl:laidOutB P=true) {W W':World} {sp:Nat→Bool} (hsame:∀b,b<W.heap.size→W'.heap[b]?=W.heap[b]?):∀{ts:List TypeId} {vs:List Value} {ds:List (DataW H)} {ps:List MemPlace},
  (∀t∈ts,P.readableRec t=true∧t<P.types.size)→DataW.TrodAll enc P W 0 (fun _=>true) true ts vs ds ps→(∀p∈ps,sp p.block=true)→(∀p∈ps,p.block<W.heap.size)→(hb:Below W.heap.size W W')→DataW.TrodAll enc P W' 0 sp true ts vs ds ps
 | [],vs,ds,ps,_,h,_,_,_=>by
  obtain ⟨rfl,rfl,rfl⟩:=trodAll_nil h;exact trodAll_mk0
 | t::ts,vs,ds,ps,hr,h,hs,hp,hb=>by
  obtain ⟨v,vs1,d,ds1,a,b,rfl,rfl,rfl,h1,h2⟩:=trodAll_cons h;obtain ⟨r1,r2⟩:=hr t (aT ..);have hp1:∀p∈a,p.block<W.heap.size:=fun p q=>hp p (bN.2 (.inl q));have hp2:∀p∈b,p.block<W.heap.size:=fun p q=>hp p (bN.2 (.inr q));refine ⟨a,b,WideElems.Trod_stays hl r1 r2 h1 (fun x hx=>hb.same (hp1 x hx)) (fun x hx=>hs x (bN.2 (.inl hx))),?_,rfl⟩;exact rQ hl hsame (fun t ht=>hr t (aM _ ht)) h2 (fun p q=>hs p (bN.2 (.inr q))) hp2 hb
theorem GB {f:Func} {s:ChangeSpec} {apart fresh handsOn again:Bool} {W W':World} {args:Array Value} {ds gs:List (DataW H)} {before:List MemPlace} {tb:TypeId}
  (hl:laidOutB P=true) (hr:∀t∈f.params.toList,P.readableRec t=true∧t<P.types.size) (hvar:s.vars=[]) (hrt:f.resultTypes=#[tb]) (htb:P.underlying tb=some .bool)
  (hW:DataW.Whole enc P f.params.toList s.vars apart W args.toList ds gs before) (hfn:s.fn H (ds++gs)={results:=[.lit (.bool true)],args:=ds})
  (hb:Below W.heap.size W W'):s.post enc P f apart fresh handsOn again W args (.bool true) W':=by
 have hlt:=hW.lt;have hW':=hW;obtain ⟨p,q,hA,hV,rfl,hz,hn⟩:=hW';have hV0:q=[]:=by rw [hvar] at hV;exact (trodVars_none hV).2
 subst hV0;rw [List.append_nil] at *
 have hargs:∀sp:Nat→Bool,(∀x∈p,sp x.block=true)→DataW.TrodAll enc P W' 0 sp true f.params.toList args.toList (s.fn H (ds++gs)).args p:=fun sp hs=>by
  rw [hfn];exact rQ hl hb.block hr hA hs hlt hb
 have hvars:∀sp:Nat→Bool,DataW.TrodVars enc P W' sp s.vars (s.fn H (ds++gs)).vars []:=fun sp=>by rw [hvar,hfn];rfl
 have hres:∀(b:Nat) (sp:Nat→Bool) (hd:Bool),DataW.TrodAll enc P W' b sp hd f.resultTypes.toList ((Value.bool true).resultList f.resultTypes.size) (s.fn H (ds++gs)).results []:=fun b sp hd=>by
  rw [hfn,hrt];exact trodAll_cons_mk (shut_bool htb _) trodAll_mk0
 have hold:∀x∈p,(fun b=>decide (b<W.heap.size)) x.block=true:=fun x hx=>by simpa using hlt x hx
 refine ⟨ds,gs,p,[],p,[],hW,hres _ _ _,hargs _ hold,hvars _,World.keptBut_mono (fun x hx=>⟨hx,?_⟩) (hb.frame (·∈p)),fun _=>?_⟩
 ·exact Or.inr (by simpa using hx)
 ·refine ⟨?_,_,_,([]++p)++[],⟨[]++p,[],trodAll_append (hargs _ (fun _ _=>rfl)) (hres _ _ _),hvars _,rfl,?_,?_⟩,?_⟩
  ·exact ok_one hrt rfl (okWide_bool_mk htb _)
  ·intro b off hp;have hp':MemPlace.cell b off∈p:=by simpa using hp
   rw [hb.frozen (hlt _ hp')];exact hz b off hp'
  ·intro ha;simpa using hn ha
  ·intro x hx _;simpa using hx
end
end Go.Ev
namespace Go.Proofs.OP
open Go Go.Ev Go.RowKit Go.ChangeShapes Go.WideShapes Go.ChangeAt
open Go.Proofs
open Nat renaming reduceLT → rL, reduceEqDiff → rD, reduceBEq → rB
theorem own:ownKnob Tryd.prog.godebug=none:=by kernel_rfl
theorem laidOut:laidOutB Tryd.prog=true:=by kernel_rfl
theorem DL:Tryd.prog.cellsOf 2=1:=by kernel_rfl
theorem DK:Tryd.prog.cellsOf 3=1:=by kernel_rfl
theorem DJ:Tryd.prog.cellsOf 4=1:=by kernel_rfl
theorem DH:Tryd.prog.cellsOf 5=1:=by kernel_rfl
theorem xX:Tryd.prog.cellsOf 9=1:=by kernel_rfl
theorem Fo:Tryd.prog.cellsOf 27=1:=by kernel_rfl
theorem cells30:Tryd.prog.cellsOf 30=1:=by kernel_rfl
theorem cells67:Tryd.prog.cellsOf 67=1:=by kernel_rfl
theorem cells68:Tryd.prog.cellsOf 68=1:=by kernel_rfl
theorem Fn:Tryd.prog.cellsOf 70=7:=by kernel_rfl
theorem Cv:Tryd.prog.cellsOf 127=5:=by kernel_rfl
theorem Cu:Tryd.prog.cellsOf 132=5:=by kernel_rfl
theorem Jw:Tryd.prog.cellsOf 184=2:=by kernel_rfl
theorem Jv:Tryd.prog.cellsOf 185=6:=by kernel_rfl
theorem Ju:Tryd.prog.cellsOf 199=4:=by kernel_rfl
theorem Jt:Tryd.prog.cellsOf 200=8:=by kernel_rfl
theorem bytes9:Tryd.prog.bytesOf 9=16:=by kernel_rfl
theorem JA:Tryd.prog.bytesOf 127=48:=by kernel_rfl
theorem Jz:Tryd.prog.bytesOf 132=40:=by kernel_rfl
theorem ER {α:Type} {l:List α} (h:l.length=5):∃a b c d e,l=[a,b,c,d,e]:=by
 match l,h with
 | [a,b,c,d,e],_=>exact ⟨a,b,c,d,e,rfl⟩
theorem list7 {α:Type} {l:List α} (h:l.length=7):∃a b c d e f i,l=[a,b,c,d,e,f,i]:=by
 match l,h with
 | [a,b,c,d,e,f,i],_=>exact ⟨a,b,c,d,e,f,i,rfl⟩
section
variable {H : Type} {enc : TypeId × Value → H} {W : World} {base : Nat} {sp : Nat → Bool} {held : Bool}
theorem sym_in {n:Nat} {cs:List Value} {y:DataW H×List MemPlace} (h:DataW.trod enc Tryd.prog W base sp held n 132 cs=some y) (_:Wts Tryd.prog 132 y.1) :
  ∃q:SymD,(Hx q.sec∧Hx q.off)∧(iD q).length=5∧∀(j:Nat) c,cs[j]?=some c→∃v,(iD q)[j]?=some v∧AbsC c v:=by
 obtain ⟨xs,m,rfl,rfl,hl,hn,hi⟩:=DataW.trod_struct Tryd.underlying132 h;rw [Cu] at hl;obtain ⟨c0,c1,c2,c3,c4,rfl⟩:=ER hl;obtain ⟨x0,x1,x2,x3,x4,rfl⟩:=ER hn;have i0:=fld hi 0 9 0 rfl rfl rfl xX;have i1:=fld hi 1 3 1 rfl rfl rfl DK;have i2:=fld hi 2 2 2 rfl rfl rfl DL;have i3:=fld hi 3 4 3 rfl rfl rfl DJ;have i4:=fld hi 4 4 4 rfl rfl rfl DJ;obtain ⟨nm,e0,_,_⟩:=DataW.trod_string Tryd.underlying9 (show DataW.trod enc Tryd.prog W base sp held m 9 [c0]=some x0 from i0)
 obtain ⟨a,e1,_,ha⟩:=DataW.trod_int Tryd.underlying3 (show DataW.trod enc Tryd.prog W base sp held m 3 [c1]=some x1 from i1);obtain ⟨b,e2,_,hb⟩:=DataW.trod_int Tryd.underlying2 (show DataW.trod enc Tryd.prog W base sp held m 2 [c2]=some x2 from i2);obtain ⟨d,e3,_⟩:=DataW.trod_bool Tryd.underlying4 (show DataW.trod enc Tryd.prog W base sp held m 4 [c3]=some x3 from i3);obtain ⟨e,e4,_⟩:=DataW.trod_bool Tryd.underlying4 (show DataW.trod enc Tryd.prog W base sp held m 4 [c4]=some x4 from i4)
 injection e0 with e0;injection e1 with e1;injection e2 with e2;injection e3 with e3;injection e4 with e4;subst e0 e1 e2 e3 e4;refine ⟨⟨nm.data.toList,a,b,d,e⟩,⟨tY ha,tY hb⟩,rfl,fun j c hj=>?_⟩
 match j,hj with
 | 0,hj=>injection hj with hj;subst hj;exact ⟨_,rfl,AbsC.str⟩
 | 1,hj=>injection hj with hj;subst hj;exact ⟨_,rfl,AbsC.int⟩
 | 2,hj=>injection hj with hj;subst hj;exact ⟨_,rfl,AbsC.int⟩
 | 3,hj=>injection hj with hj;subst hj;exact ⟨_,rfl,AbsC.bool⟩
 | 4,hj=>injection hj with hj;subst hj;exact ⟨_,rfl,AbsC.bool⟩
 | j+5,hj=>simp at hj
theorem rel_in {n:Nat} {cs:List Value} {y:DataW H×List MemPlace} (h:DataW.trod enc Tryd.prog W base sp held n 127 cs=some y) (_:Wts Tryd.prog 127 y.1) :
  ∃q:RelD,(Hx q.sec∧Hx q.off∧Hx q.kind∧Hx q.add)∧(oY q).length=5∧∀(j:Nat) c,cs[j]?=some c→∃v,(oY q)[j]?=some v∧AbsC c v:=by
 obtain ⟨xs,m,rfl,rfl,hl,hn,hi⟩:=DataW.trod_struct Tryd.underlying127 h;rw [Cv] at hl;obtain ⟨c0,c1,c2,c3,c4,rfl⟩:=ER hl;obtain ⟨x0,x1,x2,x3,x4,rfl⟩:=ER hn;have i0:=fld hi 0 3 0 rfl rfl rfl DK;have i1:=fld hi 1 2 1 rfl rfl rfl DL;have i2:=fld hi 2 3 2 rfl rfl rfl DK;have i3:=fld hi 3 9 3 rfl rfl rfl xX;have i4:=fld hi 4 2 4 rfl rfl rfl DL;obtain ⟨a,e0,_,ha⟩:=DataW.trod_int Tryd.underlying3 (show DataW.trod enc Tryd.prog W base sp held m 3 [c0]=some x0 from i0)
 obtain ⟨b,e1,_,hb⟩:=DataW.trod_int Tryd.underlying2 (show DataW.trod enc Tryd.prog W base sp held m 2 [c1]=some x1 from i1);obtain ⟨d,e2,_,hd⟩:=DataW.trod_int Tryd.underlying3 (show DataW.trod enc Tryd.prog W base sp held m 3 [c2]=some x2 from i2);obtain ⟨nm,e3,_,_⟩:=DataW.trod_string Tryd.underlying9 (show DataW.trod enc Tryd.prog W base sp held m 9 [c3]=some x3 from i3);obtain ⟨e,e4,_,he⟩:=DataW.trod_int Tryd.underlying2 (show DataW.trod enc Tryd.prog W base sp held m 2 [c4]=some x4 from i4)
 injection e0 with e0;injection e1 with e1;injection e2 with e2;injection e3 with e3;injection e4 with e4;subst e0 e1 e2 e3 e4;refine ⟨⟨a,b,d,nm.data.toList,e⟩,⟨tY ha,tY hb,tY hd,tY he⟩,rfl,fun j c hj=>?_⟩
 match j,hj with
 | 0,hj=>injection hj with hj;subst hj;exact ⟨_,rfl,AbsC.int⟩
 | 1,hj=>injection hj with hj;subst hj;exact ⟨_,rfl,AbsC.int⟩
 | 2,hj=>injection hj with hj;subst hj;exact ⟨_,rfl,AbsC.int⟩
 | 3,hj=>injection hj with hj;subst hj;exact ⟨_,rfl,AbsC.str⟩
 | 4,hj=>injection hj with hj;subst hj;exact ⟨_,rfl,AbsC.int⟩
 | j+5,hj=>simp at hj
theorem str_in {n:Nat} {cs:List Value} {y:DataW H×List MemPlace} (h:DataW.trod enc Tryd.prog W base sp held n 9 cs=some y) (_:Wts Tryd.prog 9 y.1) :
  ∃q:List UInt8,True∧([V.str q]:List V).length=1∧∀(j:Nat) c,cs[j]?=some c→∃v,([V.str q]:List V)[j]?=some v∧AbsC c v:=by
 obtain ⟨nm,rfl,_,_⟩:=DataW.trod_string Tryd.underlying9 h;refine ⟨nm.data.toList,aD,rfl,fun j c hj=>?_⟩
 cases j with
 | zero=>injection hj with hj;subst hj;exact ⟨_,rfl,AbsC.str⟩
 | succ j=>simp at hj
theorem sL {fuel:Nat} {c0 c1:Value} {b0 b1:Bool} {y:DataW H×List MemPlace}
  (h:DataW.trod enc Tryd.prog W base sp held fuel 184 [c0,c1]=some y) (hy:y.1=.agg [.lit (.bool b0),.lit (.bool b1)]):c0=.bool b0∧c1=.bool b1:=by
 obtain ⟨y0,y1,n,rfl,_,h0,h1⟩:=trod_struct2 Tryd.underlying184 h;rw [DJ] at h0 h1;obtain ⟨z0,e0,rfl⟩:=DataW.trod_bool Tryd.underlying4 h0;obtain ⟨z1,e1,rfl⟩:=DataW.trod_bool Tryd.underlying4 h1;simp only [DataW.agg.injEq,List.cons.injEq,DataW.lit.injEq,Lit.bool.injEq,and_true] at hy;simp at e0 e1;exact ⟨by rw [e0,hy.1],by rw [e1,hy.2]⟩
def Jh:List Value:=[.bool false,.bool false,.bool false,.bool true,.bool true,.bool false]
theorem zK {fuel:Nat} {cs:List Value} {p:List MemPlace}
  (h:DataW.trod enc Tryd.prog W base sp held fuel 185 cs=some (YtloblhhnlaaajaaDoor.Rows.laid_orpiment_object_values,p)):cs=Jh:=by
 obtain ⟨xs,m,rfl,hx,hl,hn,hi⟩:=DataW.trod_array Tryd.underlying185 h;rw [Jv] at hl;have hd:=congrArg Prod.fst hx;simp only [YtloblhhnlaaajaaDoor.Rows.laid_orpiment_object_values,DataW.agg.injEq] at hd
 match cs,hl with
 | [c0,c1,c2,c3,c4,c5],_ =>
  match xs,hn with
  | [x0,x1,x2],_ =>
   simp only [bI,List.map_nil,List.cons.injEq,and_true] at hd;have i0:=hi 0 (by omega);have i1:=hi 1 (by omega);have i2:=hi 2 (by omega);rw [Jw] at i0 i1 i2;obtain ⟨rfl,rfl⟩:=sL (b0:=false) (b1:=false) (by simpa using i0) hd.1.symm;obtain ⟨rfl,rfl⟩:=sL (b0:=false) (b1:=true) (by simpa using i1) hd.2.1.symm;obtain ⟨rfl,rfl⟩:=sL (b0:=true) (b1:=false) (by simpa using i2) hd.2.2.symm
   rfl
theorem xt {fuel:Nat} {c0 c1 c2 c3:Value} {a0 a1 a2 a3:Int} {y:DataW H×List MemPlace}
  (h:DataW.trod enc Tryd.prog W base sp held fuel 199 [c0,c1,c2,c3]=some y) (hy:y.1=.agg [.lit (.int .u8 a0),.lit (.int .u8 a1),.lit (.int .u8 a2),.lit (.int .u8 a3)]):c0=.int .u8 a0∧c1=.int .u8 a1∧c2=.int .u8 a2∧c3=.int .u8 a3:=by
 obtain ⟨xs,m,rfl,rfl,hl,hn,hi⟩:=DataW.trod_array Tryd.underlying199 h
 match xs,hn with
 | [x0,x1,x2,x3],_ =>
  have i0:=hi 0 (by omega);have i1:=hi 1 (by omega);have i2:=hi 2 (by omega);have i3:=hi 3 (by omega);rw [DH] at i0 i1 i2 i3;obtain ⟨z0,e0,e0',_⟩:=DataW.trod_int Tryd.underlying5 (show DataW.trod enc Tryd.prog W base sp held m 5 [c0]=some x0 from i0);obtain ⟨z1,e1,e1',_⟩:=DataW.trod_int Tryd.underlying5 (show DataW.trod enc Tryd.prog W base sp held m 5 [c1]=some x1 from i1);obtain ⟨z2,e2,e2',_⟩:=DataW.trod_int Tryd.underlying5 (show DataW.trod enc Tryd.prog W base sp held m 5 [c2]=some x2 from i2)
  obtain ⟨z3,e3,e3',_⟩:=DataW.trod_int Tryd.underlying5 (show DataW.trod enc Tryd.prog W base sp held m 5 [c3]=some x3 from i3);subst e0' e1' e2' e3';simp at hy e0 e1 e2 e3;obtain ⟨rfl,rfl,rfl,rfl⟩:=hy;exact ⟨e0,e1,e2,e3⟩
def mags:List Value:=[.int .u8 79,.int .u8 66,.int .u8 74,.int .u8 49,.int .u8 73,.int .u8 77,.int .u8 71,.int .u8 49]
theorem Af {fuel:Nat} {cs:List Value} {p:List MemPlace}
  (h:DataW.trod enc Tryd.prog W base sp held fuel 200 cs=some (YtloblhhnlaaajaaDoor.Rows.laid_orpiment_object_magics,p)):cs=mags:=by
 obtain ⟨xs,m,rfl,hx,hl,hn,hi⟩:=DataW.trod_array Tryd.underlying200 h;rw [Jt] at hl;have hd:=congrArg Prod.fst hx;simp only [YtloblhhnlaaajaaDoor.Rows.laid_orpiment_object_magics,DataW.agg.injEq] at hd
 match cs,hl with
 | [c0,c1,c2,c3,c4,c5,c6,c7],_ =>
  match xs,hn with
  | [x0,x1],_ =>
   simp only [bI,List.map_nil,List.cons.injEq,and_true] at hd;have i0:=hi 0 (by omega);have i1:=hi 1 (by omega);rw [Ju] at i0 i1;obtain ⟨rfl,rfl,rfl,rfl⟩:=xt (by simpa using i0) hd.1.symm;obtain ⟨rfl,rfl,rfl,rfl⟩:=xt (by simpa using i1) hd.2.symm
   rfl
end
end Go.Proofs.OP
namespace Go.Proofs.OP
open Go Go.Ev
open Go.Proofs
variable {g : T (List V)}
theorem ga:(E g).tys.get 28=some {desc:=.slice 41,size:=1,bytes:=24,zero:=[.nils],zv:=.nils,cmp:=false}:=by rw [dN];exact dM (by kernel_rfl) rfl
theorem fY:(E g).tys.get 29=some {desc:=.slice 43,size:=1,bytes:=24,zero:=[.nils],zv:=.nils,cmp:=false}:=by rw [dN];exact dM (by kernel_rfl) rfl
theorem ir:(E g).tys.get 32=some {desc:=.struct #[⟨ "Base",2,0,false, "", "",0⟩,⟨ "Bytes",27,1,false, "", "",8⟩,⟨ "Code",2,2,false, "", "",32⟩,⟨ "Entry",2,3,false, "", "",40⟩,⟨ "Exports",28,4,false, "", "",48⟩,⟨ "Slots",29,5,false, "", "",72⟩,⟨ "Needs",30,6,false, "", "",96⟩],size:=7,bytes:=120,zero:=[.int .i64 0,.nils,.int .i64 0,.int .i64 0,.nils,.nils,.nils],zv:=.agg [.int .i64 0,.nils,.int .i64 0,.int .i64 0,.nils,.nils,.nils],cmp:=false}:=by rw [dN];exact dM (by kernel_rfl) rfl
theorem cV {b o:Nat}:cu (E g) 32 (.ptr b o) 0=some (.ptr b (o+0)):=cw (fd:=⟨ "Base",2,0,false, "", "",0⟩) ir rfl rfl ty2 (by decide)
theorem dX {b o:Nat}:cu (E g) 32 (.ptr b o) 1=some (.ptr b (o+1)):=cw (fd:=⟨ "Bytes",27,1,false, "", "",8⟩) ir rfl rfl cM (by decide)
theorem ed {b o:Nat}:cu (E g) 32 (.ptr b o) 2=some (.ptr b (o+2)):=cw (fd:=⟨ "Code",2,2,false, "", "",32⟩) ir rfl rfl ty2 (by decide)
theorem eh {b o:Nat}:cu (E g) 32 (.ptr b o) 3=some (.ptr b (o+3)):=cw (fd:=⟨ "Entry",2,3,false, "", "",40⟩) ir rfl rfl ty2 (by decide)
theorem gE {b o:Nat}:cu (E g) 32 (.ptr b o) 4=some (.ptr b (o+4)):=cw (fd:=⟨ "Exports",28,4,false, "", "",48⟩) ir rfl rfl ga (by decide)
theorem gC {b o:Nat}:cu (E g) 32 (.ptr b o) 5=some (.ptr b (o+5)):=cw (fd:=⟨ "Slots",29,5,false, "", "",72⟩) ir rfl rfl fY (by decide)
theorem eW {b o:Nat}:cu (E g) 32 (.ptr b o) 6=some (.ptr b (o+6)):=cw (fd:=⟨ "Needs",30,6,false, "", "",96⟩) ir rfl rfl cD (by decide)
theorem cP:(E g).tys.get 35=some {desc:=.struct #[⟨ "At",3,0,false, "", "",0⟩,⟨ "Code",33,1,false, "", "",8⟩],size:=2,bytes:=16,zero:=[.int .i64 0,.int .i64 0],zv:=.agg [.int .i64 0,.int .i64 0],cmp:=true}:=by rw [dN];exact dM (by kernel_rfl) rfl
theorem lw {b o:Nat}:cu (E g) 35 (.ptr b o) 1=some (.ptr b (o+1)):=cw (fd:=⟨ "Code",33,1,false, "", "",8⟩) cP rfl rfl mG (by decide)
theorem rJ:(E g).tys.get 41=some {desc:=.struct #[⟨ "Name",9,0,false, "", "",0⟩,⟨ "Address",2,1,false, "", "",16⟩],size:=2,bytes:=24,zero:=[.str [],.int .i64 0],zv:=.agg [.str [],.int .i64 0],cmp:=true}:=by rw [dN];exact dM (by kernel_rfl) rfl
theorem DA {b o:Nat}:cu (E g) 41 (.ptr b o) 0=some (.ptr b (o+0)):=cw (fd:=⟨ "Name",9,0,false, "", "",0⟩) rJ rfl rfl ty9 (by decide)
theorem xH {b o:Nat}:cu (E g) 41 (.ptr b o) 1=some (.ptr b (o+1)):=cw (fd:=⟨ "Address",2,1,false, "", "",16⟩) rJ rfl rfl ty2 (by decide)
theorem lJ:(E g).tys.get 43=some {desc:=.struct #[⟨ "Name",9,0,false, "", "",0⟩,⟨ "Address",2,1,false, "", "",16⟩,⟨ "Bound",2,2,false, "", "",24⟩],size:=3,bytes:=32,zero:=[.str [],.int .i64 0,.int .i64 0],zv:=.agg [.str [],.int .i64 0,.int .i64 0],cmp:=true}:=by rw [dN];exact dM (by kernel_rfl) rfl
theorem Dz {b o:Nat}:cu (E g) 43 (.ptr b o) 0=some (.ptr b (o+0)):=cw (fd:=⟨ "Name",9,0,false, "", "",0⟩) lJ rfl rfl ty9 (by decide)
theorem jB {b o:Nat}:cu (E g) 43 (.ptr b o) 1=some (.ptr b (o+1)):=cw (fd:=⟨ "Address",2,1,false, "", "",16⟩) lJ rfl rfl ty2 (by decide)
theorem jS {b o:Nat}:cu (E g) 43 (.ptr b o) 2=some (.ptr b (o+2)):=cw (fd:=⟨ "Bound",2,2,false, "", "",24⟩) lJ rfl rfl ty2 (by decide)
theorem dC:(E g).tys.get 57=some {desc:=.slice 135,size:=1,bytes:=24,zero:=[.nils],zv:=.nils,cmp:=false}:=by rw [dN];exact dM (by kernel_rfl) rfl
theorem dp:(E g).tys.get 58=some {desc:=.slice 136,size:=1,bytes:=24,zero:=[.nils],zv:=.nils,cmp:=false}:=by rw [dN];exact dM (by kernel_rfl) rfl
theorem gY:(E g).tys.get 60=some {desc:=.struct #[⟨ "Base",2,0,false, "", "",0⟩,⟨ "Bytes",27,1,false, "", "",8⟩,⟨ "Code",2,2,false, "", "",32⟩,⟨ "Entry",2,3,false, "", "",40⟩,⟨ "Exports",57,4,false, "", "",48⟩,⟨ "Slots",58,5,false, "", "",72⟩,⟨ "Needs",30,6,false, "", "",96⟩],size:=7,bytes:=120,zero:=[.int .i64 0,.nils,.int .i64 0,.int .i64 0,.nils,.nils,.nils],zv:=.agg [.int .i64 0,.nils,.int .i64 0,.int .i64 0,.nils,.nils,.nils],cmp:=false}:=by rw [dN];exact dM (by kernel_rfl) rfl
theorem cZ {b o:Nat}:cu (E g) 60 (.ptr b o) 0=some (.ptr b (o+0)):=cw (fd:=⟨ "Base",2,0,false, "", "",0⟩) gY rfl rfl ty2 (by decide)
theorem dW {b o:Nat}:cu (E g) 60 (.ptr b o) 1=some (.ptr b (o+1)):=cw (fd:=⟨ "Bytes",27,1,false, "", "",8⟩) gY rfl rfl cM (by decide)
theorem dL {b o:Nat}:cu (E g) 60 (.ptr b o) 2=some (.ptr b (o+2)):=cw (fd:=⟨ "Code",2,2,false, "", "",32⟩) gY rfl rfl ty2 (by decide)
theorem dB {b o:Nat}:cu (E g) 60 (.ptr b o) 3=some (.ptr b (o+3)):=cw (fd:=⟨ "Entry",2,3,false, "", "",40⟩) gY rfl rfl ty2 (by decide)
theorem dE {b o:Nat}:cu (E g) 60 (.ptr b o) 4=some (.ptr b (o+4)):=cw (fd:=⟨ "Exports",57,4,false, "", "",48⟩) gY rfl rfl dC (by decide)
theorem dx {b o:Nat}:cu (E g) 60 (.ptr b o) 5=some (.ptr b (o+5)):=cw (fd:=⟨ "Slots",58,5,false, "", "",72⟩) gY rfl rfl dp (by decide)
theorem dD {b o:Nat}:cu (E g) 60 (.ptr b o) 6=some (.ptr b (o+6)):=cw (fd:=⟨ "Needs",30,6,false, "", "",96⟩) gY rfl rfl cD (by decide)
theorem nN:(E g).tys.get 135=some {desc:=.struct #[⟨ "Name",9,0,false, "", "",0⟩,⟨ "Address",2,1,false, "", "",16⟩],size:=2,bytes:=24,zero:=[.str [],.int .i64 0],zv:=.agg [.str [],.int .i64 0],cmp:=true}:=by rw [dN];exact dM (by kernel_rfl) rfl
theorem kV {b o:Nat}:cu (E g) 135 (.ptr b o) 0=some (.ptr b (o+0)):=cw (fd:=⟨ "Name",9,0,false, "", "",0⟩) nN rfl rfl ty9 (by decide)
theorem fg135_0 {b o:Nat}:cu (E g) 135 (.gp b o) 0=some (.gp b (o+0)):=iI (fd:=⟨ "Name",9,0,false, "", "",0⟩) nN rfl rfl ty9 (by decide)
theorem pQ {b o:Nat}:cu (E g) 135 (.ptr b o) 1=some (.ptr b (o+1)):=cw (fd:=⟨ "Address",2,1,false, "", "",16⟩) nN rfl rfl ty2 (by decide)
theorem kZ:(E g).tys.get 136=some {desc:=.struct #[⟨ "Name",9,0,false, "", "",0⟩,⟨ "Address",2,1,false, "", "",16⟩,⟨ "Bound",2,2,false, "", "",24⟩],size:=3,bytes:=32,zero:=[.str [],.int .i64 0,.int .i64 0],zv:=.agg [.str [],.int .i64 0,.int .i64 0],cmp:=true}:=by rw [dN];exact dM (by kernel_rfl) rfl
theorem kg {b o:Nat}:cu (E g) 136 (.ptr b o) 0=some (.ptr b (o+0)):=cw (fd:=⟨ "Name",9,0,false, "", "",0⟩) kZ rfl rfl ty9 (by decide)
theorem fg136_0 {b o:Nat}:cu (E g) 136 (.gp b o) 0=some (.gp b (o+0)):=iI (fd:=⟨ "Name",9,0,false, "", "",0⟩) kZ rfl rfl ty9 (by decide)
theorem il {b o:Nat}:cu (E g) 136 (.ptr b o) 1=some (.ptr b (o+1)):=cw (fd:=⟨ "Address",2,1,false, "", "",16⟩) kZ rfl rfl ty2 (by decide)
theorem fg136_1 {b o:Nat}:cu (E g) 136 (.gp b o) 1=some (.gp b (o+1)):=iI (fd:=⟨ "Address",2,1,false, "", "",16⟩) kZ rfl rfl ty2 (by decide)
theorem jb {b o:Nat}:cu (E g) 136 (.ptr b o) 2=some (.ptr b (o+2)):=cw (fd:=⟨ "Bound",2,2,false, "", "",24⟩) kZ rfl rfl ty2 (by decide)
theorem ty196:(E g).tys.get 196=some {desc:=.map 2 4,size:=1,bytes:=8,zero:=[.nilm],zv:=.nilm,cmp:=false}:=by rw [dN];exact dM (by kernel_rfl) rfl
theorem fn30:(E g).fns.get 30=some {nt:=8,body:=Tryd.f30.body.get!,res:=[.cell 4 35]}:=by rw [dg];exact dt (FI.of_mk Tryd.func30 (show Tryd.f30.body=some Tryd.f30.body.get! by kernel_rfl) (by kernel_rfl) (show Tryd.f30.ntmps=8 by kernel_rfl) (show Tryd.f30.results.toList=[.cell 4 35] by kernel_rfl)) rfl
theorem fn52:(E g).fns.get 52=some {nt:=220,body:=Tryd.f52.body.get!,res:=[.tmp 2]}:=by rw [dg];exact dt (FI.of_mk Tryd.func52 (show Tryd.f52.body=some Tryd.f52.body.get! by kernel_rfl) (by kernel_rfl) (show Tryd.f52.ntmps=220 by kernel_rfl) (show Tryd.f52.results.toList=[.tmp 2] by kernel_rfl)) rfl
theorem fn58:(E g).fns.get 58=some {nt:=231,body:=Tryd.f58.body.get!,res:=[.tmp 2]}:=by rw [dg];exact dt (FI.of_mk Tryd.func58 (show Tryd.f58.body=some Tryd.f58.body.get! by kernel_rfl) (by kernel_rfl) (show Tryd.f58.ntmps=231 by kernel_rfl) (show Tryd.f58.results.toList=[.tmp 2] by kernel_rfl)) rfl
theorem fn93:(E g).fns.get 93=some {nt:=21,body:=Tryd.f93.body.get!,res:=[]}:=by rw [dg];exact dt (FI.of_mk Tryd.func93 (show Tryd.f93.body=some Tryd.f93.body.get! by kernel_rfl) (by kernel_rfl) (show Tryd.f93.ntmps=21 by kernel_rfl) (show Tryd.f93.results.toList=[] by kernel_rfl)) rfl
theorem fn95:(E g).fns.get 95=some {nt:=32,body:=Tryd.f95.body.get!,res:=[.tmp 2]}:=by rw [dg];exact dt (FI.of_mk Tryd.func95 (show Tryd.f95.body=some Tryd.f95.body.get! by kernel_rfl) (by kernel_rfl) (show Tryd.f95.ntmps=32 by kernel_rfl) (show Tryd.f95.results.toList=[.tmp 2] by kernel_rfl)) rfl
theorem fn116:(E g).fns.get 116=some {nt:=9,body:=Tryd.f116.body.get!,res:=[]}:=by rw [dg];exact dt (FI.of_mk Tryd.func116 (show Tryd.f116.body=some Tryd.f116.body.get! by kernel_rfl) (by kernel_rfl) (show Tryd.f116.ntmps=9 by kernel_rfl) (show Tryd.f116.results.toList=[] by kernel_rfl)) rfl
end Go.Proofs.OP
