/- Plain laws: what a checked object is good for; what the tables of a linker hold. -/
import Derived.Test.YtloblhhnlaaajaaDoorY38
set_option linter.unusedVariables false
set_option linter.unusedSimpArgs false
set_option linter.defProp false
namespace Go.Proofs.OP
open Go Go.Ev
open Go.Proofs
open Nat renaming reduceLT → rL, reduceEqDiff → rD, reduceBEq → rB
theorem p5 {a b:Int} (h:orE a b=0):a=0∧b=0:=by
 unfold orE at h
 split at h
 ·rename_i q;exact absurd h q
 ·rename_i q;exact ⟨Classical.byContradiction fun e=>q e,h⟩
theorem Dh {s:List UInt8} (h:eR s=0):s≠[]∧s.length≤64:=by
 unfold eR at h
 split at h
 ·cases h
 ·rename_i q
  split at h
  ·cases h
  ·exact ⟨q,by omega⟩
structure SymOk (o:ObjD) (s:SymD):Prop where
 name:s.name.length≤64
 s0:0≤s.sec
 s2:s.sec≤2
 o0:0≤s.off
 o1:s.off≤cU o s.sec
 gl:s.cn=false→s.sec≠0∧s.cm=false
theorem yJ {o:ObjD} {s:SymD} {b:Bool} (h:oP o s b=0):SymOk o s∧b=false:=by
 unfold oP at h
 split at h
 ·rename_i q;exact absurd h q
 ·rename_i q;have q:eR s.name=0:=Classical.byContradiction q
  split at h
  ·cases h
  ·rename_i q2
   split at h
   ·cases h
   ·rename_i q3
    split at h
    ·cases h
    ·rename_i q4;refine ⟨⟨(Dh q).2,by omega,by omega,by omega,by omega,fun hg=>⟨fun e=>q4 ⟨hg,.inl e⟩,?_⟩⟩,by simpa using q2⟩
     cases hw:s.cm with
     | false=>rfl
     | true=>exact absurd ⟨hg,.inr hw⟩ q4
theorem DY {o:ObjD}:∀{r p:List SymD},lH o p r=0→∀s∈r,SymOk o s
 | [],p,_,s,hs=>by cases hs
 | x::r,p,h,s,hs=>by
  simp only [lH] at h;obtain ⟨h1,h2⟩:=p5 h
  rcases aW.1 hs with rfl|hs
  ·exact (yJ h1).1
  ·exact DY h2 s hs
theorem Ce {k:List UInt8}:∀{L:List SymD},fnd k L=none↔∀s∈L,s.name≠k
 | []=>by simp [fnd]
 | s::r=>by
  by_cases h:s.name=k
  ·simp [fnd,h]
  ·simp [fnd,h,Ce (L:=r)]
theorem uP {o:ObjD}:∀{r p:List SymD},lH o p r=0→(p.map (·.name)).Nodup→((p++r).map (·.name)).Nodup
 | [],p,_,hp=>by simpa using hp
 | x::r,p,h,hp=>by
  simp only [lH] at h;obtain ⟨h1,h2⟩:=p5 h;have hn:=(yJ h1).2
  have h3:=uP h2 (by
   rw [List.map_append,List.nodup_append];refine ⟨hp,by simp,fun a ha b hb=>?_⟩;simp only [bI,List.map_nil,aN] at hb;subst hb
   rintro rfl
   obtain ⟨s,hs,e⟩:=bP.1 ha
   have:fnd x.name p=none:=by
    cases hf:fnd x.name p with
    | none=>rfl
    | some j=>simp [fg,hf] at hn
   exact Ce.1 this s hs e)
  simpa using h3
structure RelOk (o:ObjD) (r:RelD):Prop where
 s1:1≤r.sec
 s2:r.sec≤2
 o0:0≤r.off
 o1:r.off+4≤cU o r.sec
 a0:-2147483648≤r.add
 a1:r.add≤2147483648
 k0:0≤r.kind
 k1:r.kind<3
 known:∃s∈o.ce,s.name=r.sym
theorem Gx {o:ObjD} {p:List RelD} {r:RelD} (h:sH o p (fg r.sym o.ce) r=0):RelOk o r:=by
 unfold sH at h
 split at h
 ·cases h
 ·rename_i q1
  split at h
  ·cases h
  ·rename_i q2
   split at h
   ·cases h
   ·rename_i q3
    have hk:∃s∈o.ce,s.name=r.sym:=by
     cases hf:fnd r.sym o.ce with
     | none=>simp [fg,hf] at q3
     | some j =>
      obtain ⟨hj,e⟩:=qJ hf;exact ⟨_,aP hj,e⟩
    exact ⟨by omega,by omega,by omega,by omega,by omega,by omega,by omega,by omega,hk⟩
theorem Ed {o:ObjD}:∀{r p:List RelD},nX o p r=0→∀x∈r,RelOk o x
 | [],p,_,s,hs=>by cases hs
 | x::r,p,h,s,hs=>by
  simp only [nX] at h;obtain ⟨h1,h2⟩:=p5 h
  rcases aW.1 hs with rfl|hs
  ·exact Gx h1
  ·exact Ed h2 s hs
structure ObjGd (o:ObjD):Prop where
 code:o.code.length≤16384
 data:o.data.length≤16384
 nsym:o.ce.length≤500
 nrel:o.ci.length≤1000
 nneed:o.cf.length≤20
 ce:∀s∈o.ce,SymOk o s
 ci:∀r∈o.ci,RelOk o r
 nodup:(o.ce.map (·.name)).Nodup
theorem DG {o:ObjD} (h:ig o=0):ObjGd o:=by
 unfold ig at h;obtain ⟨h1,h⟩:=p5 h;obtain ⟨h2,h⟩:=p5 h;obtain ⟨h3,h⟩:=p5 h;obtain ⟨h4,h⟩:=p5 h
 have hl:(sT o).any (fun p=>decide (p.2<p.1))=false:=by
  unfold uu at h1
  split at h1
  ·cases h1
  ·rename_i q;simpa using q
 simp only [sT,List.any_cons,List.any_nil,Bool.or_false,Bool.or_eq_false_iff,decide_eq_false_iff_not] at hl;obtain ⟨q1,q2,q3,q4,q5⟩:=hl;exact ⟨by omega,by omega,by omega,by omega,by omega,DY h3,Ed h4,by simpa using uP h3 (by simp)⟩
def eB:Nat→List ObjD→Except (Int×Int) Unit
 | _,[]=>.ok ()
 | i,o::r=>if ig o=0 then eB (i+1) r else .error ((i:Int),ig o)
theorem ou:∀{os:List ObjD} {i:Nat},eB i os=.ok ()→∀o∈os,ObjGd o
 | [],i,_,o,ho=>by cases ho
 | x::r,i,h,o,ho=>by
  simp only [eB] at h
  split at h
  ·rename_i q
   rcases aW.1 ho with rfl|ho
   ·exact DG q
   ·exact ou h o ho
  ·cases h
theorem ObjGd.off {o:ObjD} (h:ObjGd o) {s:SymD} (hs:s∈o.ce):s.off≤16384:=by
 have:=(h.ce s hs).o1;have h1:=h.code;have h2:=h.data;unfold cU at this
 split at this
 ·omega
 ·split at this<;>omega
def CG (os:List ObjD) (p:List UInt8×GlD):Prop:=∃o,os[p.2.obj]?=some o∧p.2.sym∈o.ce∧p.2.sym.sec≠0∧p.2.sym.cn=true∧p.1=p.2.sym.name
theorem Ds {α:Type} {k:List UInt8} {x:α}:∀{L:List (List UInt8×α)} {p:List UInt8×α},p∈ia k x L→p=(k,x)∨p∈L
 | [],p,h=>by simp [ia] at h;exact .inl h
 | q::r,p,h=>by
  simp only [ia] at h
  split at h
  ·rcases aW.1 h with e|h
   ·exact .inl e
   ·exact .inr (aM _ h)
  ·rcases aW.1 h with e|h
   ·exact .inr (by rw [e];exact aT ..)
   ·rcases Ds h with q|q
    ·exact .inl q
    ·exact .inr (aM _ q)
theorem tT {i:Nat} {os:List ObjD} {o:ObjD} (ho:os[i]?=some o):∀{ys:List SymD} {D D':Dm},(∀s∈ys,s∈o.ce)→oM i ys D=.ok D'→(∀p∈D,CG os p)→(D.map (·.1)).Nodup →
  (∀p∈D',CG os p)∧(D'.map (·.1)).Nodup∧D'.length≤D.length+ys.length
 | [],D,D',_,h,hd,hn=>by
  simp only [oM,Except.ok.injEq] at h;subst h;exact ⟨hd,hn,by simp⟩
 | s::r,D,D',hy,h,hd,hn=>by
  have hy':∀s∈r,s∈o.ce:=fun x hx=>hy x (aM _ hx);simp only [oM] at h
  split at h
  ·obtain ⟨q1,q2,q3⟩:=tT ho hy' h hd hn;exact ⟨q1,q2,by simp only [aO];omega⟩
  ·rename_i hs
   have hput:∀p∈ia s.name ⟨0,s.cm,i,s⟩ D,CG os p:=fun p hp=>by
    rcases Ds hp with rfl|q
    ·exact ⟨o,ho,hy s (aT ..),fun e=>hs (.inl e),by cases hg:s.cn with
      | true=>rfl
      | false=>exact absurd (.inr hg) hs,rfl⟩
    ·exact hd p q
   have hl:=ux s.name ⟨0,s.cm,i,s⟩ D
   split at h
   ·obtain ⟨q1,q2,q3⟩:=tT ho hy' h hput (xn hn);exact ⟨q1,q2,by simp only [aO];omega⟩
   ·split at h
    ·obtain ⟨q1,q2,q3⟩:=tT ho hy' h hd hn;exact ⟨q1,q2,by simp only [aO];omega⟩
    ·split at h
     ·obtain ⟨q1,q2,q3⟩:=tT ho hy' h hput (xn hn);exact ⟨q1,q2,by simp only [aO];omega⟩
     ·cases h
theorem Av {os:List ObjD}:∀{r:List ObjD} {i:Nat} {D D':Dm},os.drop i=r→(∀o∈os,o.ce.length≤500)→qg i r D=.ok D'→(∀p∈D,CG os p)→(D.map (·.1)).Nodup →
  (∀p∈D',CG os p)∧(D'.map (·.1)).Nodup∧D'.length≤D.length+r.length * 500
 | [],i,D,D',_,_,h,hd,hn=>by
  simp only [qg,Except.ok.injEq] at h;subst h;exact ⟨hd,hn,by simp⟩
 | o::r,i,D,D',hi,hl,h,hd,hn=>by
  have ho:os[i]?=some o:=by
   have:(os.drop i)[0]?=some o:=by rw [hi];rfl
   simpa using this
  have hi':os.drop (i+1)=r:=by rw [←List.drop_drop,hi];rfl
  simp only [qg] at h
  split at h
  ·cases h
  ·rename_i D1 h1;obtain ⟨q1,q2,q3⟩:=tT ho (fun s hs=>hs) h1 hd hn;obtain ⟨r1,r2,r3⟩:=Av hi' hl h q1 q2;have:=hl o (bR ho);exact ⟨r1,r2,by simp only [aO,Nat.succ_mul];omega⟩
def yl (os:List ObjD) (p:List UInt8×Int):Prop:=p.2=0∧∃o∈os,∃r∈o.ci,p.1=r.sym
theorem zZ {i:Nat} {own:Sm} {D:Dm} {os:List ObjD} {o:ObjD} (ho:o∈os):∀{ys:List RelD} {S S':St},(∀s∈ys,s∈o.ci)→resR i own D ys S=.ok S'→(∀p∈S,yl os p)→(S.map (·.1)).Nodup →
  (∀p∈S',yl os p)∧(S'.map (·.1)).Nodup∧S'.length≤S.length+ys.length
 | [],S,S',_,h,hd,hn=>by
  simp only [resR,Except.ok.injEq] at h;subst h;exact ⟨hd,hn,by simp⟩
 | r::rest,S,S',hy,h,hd,hn=>by
  have hy':∀s∈rest,s∈o.ci:=fun x hx=>hy x (aM _ hx);simp only [resR] at h
  split at h
  ·have hput:∀p∈ia r.sym 0 S,yl os p:=fun p hp=>by
    rcases Ds hp with rfl|q
    ·exact ⟨rfl,o,ho,r,hy r (aT ..),rfl⟩
    ·exact hd p q
   have hl:=ux r.sym 0 S;obtain ⟨q1,q2,q3⟩:=zZ ho hy' h hput (xn hn);exact ⟨q1,q2,by simp only [aO];omega⟩
  ·split at h
   ·cases h
   ·obtain ⟨q1,q2,q3⟩:=zZ ho hy' h hd hn;exact ⟨q1,q2,by simp only [aO];omega⟩
theorem z6 {D:Dm} {os:List ObjD}:∀{r:List ObjD} {i:Nat} {S S':St},(∀o∈r,o∈os∧o.ci.length≤1000)→qf D i r S=.ok S'→(∀p∈S,yl os p)→(S.map (·.1)).Nodup →
  (∀p∈S',yl os p)∧(S'.map (·.1)).Nodup∧S'.length≤S.length+r.length * 1000
 | [],i,S,S',_,h,hd,hn=>by
  simp only [qf,Except.ok.injEq] at h;subst h;exact ⟨hd,hn,by simp⟩
 | o::r,i,S,S',hr,h,hd,hn=>by
  obtain ⟨ho,hl⟩:=hr o (aT ..);simp only [qf] at h
  split at h
  ·cases h
  ·rename_i S1 h1;obtain ⟨q1,q2,q3⟩:=zZ ho (fun s hs=>hs) h1 hd hn;obtain ⟨r1,r2,r3⟩:=z6 (fun x hx=>hr x (aM _ hx)) h q1 q2;exact ⟨r1,r2,by simp only [aO,Nat.succ_mul];omega⟩
theorem Cb {α:Type} {k:List UInt8} {x:α} {L:List (List UInt8×α)} (h:k∈L.map (·.1)):(ia k x L).map (·.1)=L.map (·.1):=by rw [vG,if_pos h]
theorem tx:∀{K:List (List UInt8)} {a:Int} {S:St},(∀k∈K,k∈S.map (·.1))→(iY a K S).map (·.1)=S.map (·.1)
 | [],a,S,_=>rfl
 | k::r,a,S,h=>by
  have hk:=Cb (x:=a) (h k (aT ..));simp only [iY];rw [tx (fun x hx=>by rw [hk];exact h x (aM _ hx)),hk]
theorem rS {k:List UInt8}:∀{K:List (List UInt8)} {a:Int} {S:St},k∉K→al k (iY a K S)=al k S
 | [],a,S,_=>rfl
 | x::r,a,S,h=>by
  simp only [aW,not_or] at h;simp only [iY];rw [rS h.2,vp,if_neg (fun e=>h.1 e.symm)]
theorem sA:∀{K:List (List UInt8)} {a:Int} {S:St} {j:Nat} (hj:j<K.length),K.Nodup→al K[j] (iY a K S)=some (a+8 * (j:Nat))
 | [],a,S,j,hj,_=>by simp at hj
 | x::r,a,S,0,_,hn=>by
  simp only [List.nodup_cons] at hn;simp only [List.getElem_cons_zero,iY];rw [rS hn.1,vp,if_pos rfl];simp
 | x::r,a,S,j+1,hj,hn=>by
  simp only [List.nodup_cons] at hn;simp only [List.getElem_cons_succ,iY];rw [sA (by simpa using hj) hn.2]
  congr 1
  omega
theorem mM (L:List (List UInt8)):(dK L).Perm L:=List.mergeSort_perm L _
theorem nQ {L:List (List UInt8)} (h:L.Nodup):(dK L).Nodup:=(mM L).nodup_iff.2 h
def D1 (base:Int) (os:List ObjD) (D:Dm):Dm:=D.map fun p=>(p.1,lp base os p.2)
def S1 (base:Int) (os:List ObjD) (S:St):St:=iY (base+(fM os:Nat)) (dK (S.map (·.1))) S
theorem FB {base:Int} {os:List ObjD} {D:Dm}:(D1 base os D).map (·.1)=D.map (·.1):=by simp [D1,List.map_map,Function.comp_def]
theorem pW {base:Int} {os:List ObjD} {S:St}:(S1 base os S).map (·.1)=S.map (·.1):=tx fun k hk=>(mM _).mem_iff.1 hk
theorem S1_at {base:Int} {os:List ObjD} {S:St} (hn:(S.map (·.1)).Nodup) {k:List UInt8} (hk:k∈S.map (·.1)):∃j,j<S.length∧al k (S1 base os S)=some (base+(fM os:Nat)+8 * (j:Nat)):=by
 have hk':k∈dK (S.map (·.1)):=(mM _).mem_iff.2 hk;obtain ⟨j,hj,e⟩:=List.getElem_of_mem hk';have hl:=jV S;exact ⟨j,by omega,by rw [←e];exact sA hj (nQ hn)⟩
theorem Hw {base:Int} {os:List ObjD} {S:St}:(S1 base os S).length=S.length:=by
 have:=congrArg List.length (pW (base:=base) (os:=os) (S:=S));simpa using this
theorem I4 {α:Type} {p:List UInt8×α}:∀{L:List (List UInt8×α)},(L.map (·.1)).Nodup→p∈L→al p.1 L=some p.2
 | [],_,h=>by cases h
 | q::r,hn,h=>by
  simp only [bI,List.nodup_cons] at hn
  rcases aW.1 h with rfl|h
  ·simp [al]
  ·have hne:¬q.1=p.1:=fun e=>hn.1 (by rw [e];exact bP.2 ⟨p,h,rfl⟩);simp only [al,if_neg hne];exact I4 hn.2 h
def mY (os:List ObjD) (base:Int):Except (Int×Int) ImgD :=
 if os.length=0 then .error (0,9) else if 20<os.length then .error (0,18) else if base<0∨1073741824<base∨base.tmod 16≠0 then .error (0,34) else
  match eB 0 os with
  | .error f=>.error f
  | .ok _=>match qg 0 os [] with
   | .error f=>.error f
   | .ok D=>match qf D 0 os [] with
    | .error f=>.error f
    | .ok S=>if 131072<eQ os S then .error (0,18) else
     match tR base (upN (dJ os):Nat) (D1 base os D) 0 os with
     | .error f=>.error f
     | .ok e=>.ok ⟨base,sZ base (fE (D1 base os D) (S1 base os S) (dK ((S1 base os S).map (·.1)))) (sG base os (D1 base os D) (S1 base os S) 0 os (pg os 0 os (List.replicate (eQ os S) 0))),(upN (dJ os):Nat),e,jC (D1 base os D) (dK ((D1 base os D).map (·.1))),fE (D1 base os D) (S1 base os S) (dK ((S1 base os S).map (·.1))),gy os []⟩
end Go.Proofs.OP
