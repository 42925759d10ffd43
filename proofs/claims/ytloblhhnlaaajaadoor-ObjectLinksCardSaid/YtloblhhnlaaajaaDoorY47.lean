/- The plain law: linking at another base moves the addresses. -/
import Derived.Test.YtloblhhnlaaajaaDoorY45
set_option linter.unusedVariables false
set_option linter.unusedSimpArgs false
set_option linter.defProp false
namespace Go.Proofs.OP
open Go Go.Ev
open Go.Proofs
open Nat renaming reduceLT → rL, reduceEqDiff → rD, reduceBEq → rB
def Ij (os:List ObjD) (G:GlD):Int:=(stO os G.sym.sec.toNat G.obj:Nat)+G.sym.off
theorem DQ {base:Int} {os:List ObjD} {G:GlD}:(lp base os G).cl=base+Ij os G:=by
 show base+(stO os G.sym.sec.toNat G.obj:Nat)+G.sym.off=_;unfold Ij;omega
theorem al_D1 {base:Int} {os:List ObjD} {k:List UInt8}:∀{D:Dm},al k (D1 base os D)=(al k D).map (lp base os)
 | []=>rfl
 | p::r=>by
  have ih:=al_D1 (base:=base) (os:=os) (k:=k) (D:=r);unfold D1 at ih ⊢;simp only [bI,al]
  split
  ·rfl
  ·exact ih
theorem JD {a b:List UInt8}:Op.bytesLess a b=true↔a<b:=by rw [bytesLess_eq];simp
theorem I6 (a b:List UInt8):a<b∨a=b∨b<a:=by
 by_cases h1:a<b
 ·exact .inl h1
 ·by_cases h2:b<a
  ·exact .inr (.inr h2)
  ·exact .inr (.inl (List.le_antisymm (List.not_lt.1 h2) (List.not_lt.1 h1)))
def Inc (L:List (List UInt8)):Prop:=L.Pairwise (·<·)
theorem pd {k x:List UInt8}:∀{L:List (List UInt8)},x∈pn k L↔x=k∨x∈L
 | []=>by simp [pn]
 | y::r=>by
  simp only [pn]
  split
  ·rw [aW,pd (L:=r),aW]
   constructor
   ·rintro (h|h|h)
    ·exact .inr (.inl h)
    ·exact .inl h
    ·exact .inr (.inr h)
   ·rintro (h|h|h)
    ·exact .inr (.inl h)
    ·exact .inl h
    ·exact .inr (.inr h)
  ·split
   ·rename_i e;subst e;exact ⟨.inr,fun h=>h.elim (fun e=>e ▸ aT ..) id⟩
   ·exact aW
theorem wZ {k:List UInt8}:∀{L:List (List UInt8)},Inc L→Inc (pn k L)
 | [],_=>List.pairwise_singleton ..
 | y::r,h=>by
  obtain ⟨h1,h2⟩:=List.pairwise_cons.1 h;simp only [pn]
  split
  ·rename_i e;refine List.pairwise_cons.2 ⟨fun z hz=>?_,wZ h2⟩
   rcases pd.1 hz with rfl|hz
   ·exact JD.1 e
   ·exact h1 z hz
  ·rename_i e1
   split
   ·exact h
   ·rename_i e2
    have hk:k<y:=by
     rcases I6 k y with q|q|q
     ·exact q
     ·exact absurd q.symm e2
     ·exact absurd (JD.2 q) e1
    refine List.pairwise_cons.2 ⟨fun z hz=>?_,h⟩
    rcases aW.1 hz with rfl|hz
    ·exact hk
    ·exact List.lt_trans hk (h1 z hz)
theorem EU:∀{A B:List (List UInt8)},Inc A→Inc B→(∀x,x∈A↔x∈B)→A=B
 | [],[],_,_,_=>rfl
 | [],b::B,_,_,h=>by have:=(h b).2 (aT ..);cases this
 | a::A,[],_,_,h=>by have:=(h a).1 (aT ..);cases this
 | a::A,b::B,hA,hB,h=>by
  obtain ⟨a1,a2⟩:=List.pairwise_cons.1 hA;obtain ⟨b1,b2⟩:=List.pairwise_cons.1 hB
  have hab:a=b:=by
   rcases aW.1 ((h a).1 (aT ..)) with e|e
   ·exact e
   ·rcases aW.1 ((h b).2 (aT ..)) with e2|e2
    ·exact e2.symm
    ·exact absurd (List.lt_trans (b1 a e) (a1 b e2)) (List.lt_irrefl b)
  subst hab;rw [EU a2 b2 fun x=>?_]
  constructor
  ·intro hx
   rcases aW.1 ((h x).1 (aM _ hx)) with e|e
   ·exact absurd (a1 x hx) (by rw [e];exact List.lt_irrefl a)
   ·exact e
  ·intro hx
   rcases aW.1 ((h x).2 (aM _ hx)) with e|e
   ·exact absurd (b1 x hx) (by rw [e];exact List.lt_irrefl a)
   ·exact e
theorem GZ {L:List (List UInt8)} (h:L.Nodup):Inc (dK L):=by
 have h1:(dK L).Pairwise fun x y=>decide (x≤y)=true:=by
  unfold dK
  exact List.pairwise_mergeSort (le:=fun x y=>decide (x≤y)) (fun a b c h1 h2=>aJ (List.le_trans (of_decide_eq_true h1) (of_decide_eq_true h2)))
   (fun a b=>by rcases List.le_total a b with q|q<;>simp [q]) L
 have h2:(dK L).Pairwise (·≠·):=nQ h;refine (h1.and h2).imp fun {a b} ⟨q1,q2⟩=>?_
 rcases I6 a b with q|q|q
 ·exact q
 ·exact absurd q q2
 ·exact absurd q (List.not_lt.2 (of_decide_eq_true q1))
theorem yP {L K:List (List UInt8)} (h:L.Nodup) (hk:Inc K) (hm:∀x,x∈L↔x∈K):dK L=K :=
 EU (GZ h) hk fun x=>((mM L).mem_iff).trans (hm x)
theorem rx {k:List UInt8} {s:SymD} {r:List SymD}:fg k (s::r)=if s.name=k then true else fg k r:=by
 unfold fg;simp only [fnd]
 split
 ·rfl
 ·cases fnd k r<;>rfl
theorem pp {k:List UInt8} {s:SymD} {r:List SymD}:eD k (s::r)=if s.name=k then s else eD k r:=by
 by_cases h:s.name=k
 ·simp [eD,fnd,h]
 ·simp only [eD,fnd,h,if_false]
  cases fnd k r<;>simp
theorem xo {k:List UInt8}:∀{L:List SymD},k∉L.map (·.name)→fg k L=false
 | [],_=>rfl
 | s::r,h=>by
  simp only [bI,aW,not_or] at h;rw [rx,if_neg (fun e=>h.1 e.symm),xo h.2]
def dfS (i:Nat):List SymD→List GlD
 | []=>[]
 | s::r=>if s.sec=0∨s.cn=false then dfS i r else ⟨0,s.cm,i,s⟩::dfS i r
def dfL:Nat→List ObjD→List GlD
 | _,[]=>[]
 | i,o::r=>dfS i o.ce++dfL (i+1) r
theorem Fg:∀{A B:List ObjD} {i:Nat},dfL i (A++B)=dfL i A++dfL (i+A.length) B
 | [],B,i=>rfl
 | a::A,B,i=>by
  simp only [List.cons_append,dfL,Fg (A:=A),bV,aO];rw [show i+1+A.length=i+(A.length+1) by omega]
def fw (k:List UInt8) (w:Bool) (P:List GlD):Option GlD:=P.find? fun G=>decide (G.sym.name=k)&&(G.cm==w)
def pick (k:List UInt8) (P:List GlD):Option GlD:=(fw k false P).or (fw k true P)
theorem qI {k:List UInt8} {w:Bool} {P Q:List GlD}:fw k w (P++Q)=(fw k w P).or (fw k w Q):=List.find?_append
theorem uA {k:List UInt8} {w:Bool} {G:GlD}:fw k w [G]=if G.sym.name=k∧G.cm=w then some G else none:=by
 unfold fw
 by_cases h:G.sym.name=k∧G.cm=w
 ·rw [if_pos h];simp [h.1,h.2]
 ·rw [if_neg h];simp only [List.find?_cons,List.find?_nil]
  cases hq:(decide (G.sym.name=k)&&(G.cm==w)) with
  | false=>rfl
  | true=>simp at hq;exact absurd hq h
theorem EX {k:List UInt8} {w:Bool} {P:List GlD} {G:GlD} (h:fw k w P=some G):G.cm=w:=by
 have:=List.find?_some h;simp at this;exact this.2
def isL (k:List UInt8) (w:Bool) (L:List SymD):Bool:=fg k L&&((eD k L).cn&&(decide (0<(eD k L).sec)&&((eD k L).cm==w)))
theorem Jg {k:List UInt8} {w:Bool} {i:Nat}:∀{L:List SymD},(∀s∈L,0≤s.sec)→(L.map (·.name)).Nodup→fw k w (dfS i L)=if isL k w L=true then some ⟨0,w,i,eD k L⟩ else none
 | [],_,_=>rfl
 | s::r,hs,hn=>by
  have ih:=Jg (k:=k) (w:=w) (i:=i) (L:=r) (fun x hx=>hs x (aM _ hx)) (by simp only [bI,List.nodup_cons] at hn;exact hn.2);have h0:=hs s (aT ..);simp only [dfS]
  by_cases hk:s.name=k
  ·have hr:fg k r=false:=by
    simp only [bI,List.nodup_cons] at hn;exact xo (by rw [←hk];exact hn.1)
   have hr2:fw k w (dfS i r)=none:=by rw [ih];simp [isL,hr]
   have hi:isL k w (s::r)=(s.cn&&(decide (0<s.sec)&&(s.cm==w))):=by simp [isL,rx,pp,hk]
   rw [hi,pp,if_pos hk]
   by_cases c:s.sec=0∨s.cn=false
   ·rw [if_pos c,hr2,if_neg];rcases c with c|c<;>simp [c]
   ·rw [if_neg c,show (⟨0,s.cm,i,s⟩::dfS i r:List GlD)=[⟨0,s.cm,i,s⟩]++dfS i r from rfl,qI,hr2,uA,Option.or_none]
    have c1:0<s.sec:=by
     have:s.sec≠0:=fun e=>c (.inl e);omega
    have c2:s.cn=true:=by
     cases q:s.cn with
     | true=>rfl
     | false=>exact absurd (.inr q) c
    simp only [hk,true_and,c1,c2,decide_true,Bool.true_and,beq_iff_eq]
    split
    ·rename_i q;rw [q]
    ·rfl
  ·have hi:isL k w (s::r)=isL k w r:=by simp [isL,rx,pp,hk]
   rw [hi,pp,if_neg hk]
   split
   ·exact ih
   ·rw [show (⟨0,s.cm,i,s⟩::dfS i r:List GlD)=[⟨0,s.cm,i,s⟩]++dfS i r from rfl,qI,uA,if_neg (fun q=>hk q.1),Option.none_or];exact ih
theorem Jf {k:List UInt8} {w:Bool} {i:Nat} {o:ObjD} (g:ObjGd o):fw k w (dfS i o.ce)=if isD k w o=true then some ⟨0,w,i,eD k o.ce⟩ else none :=
 Jg (fun s hs=>(g.ce s hs).s0) g.nodup
theorem uB {k:List UInt8} {w:Bool}:∀{r:List ObjD} {i:Nat},(∀o∈r,ObjGd o)→(fw k w (dfL i r)).isSome=r.any (isD k w)
 | [],i,_=>rfl
 | o::r,i,h=>by
  rw [dfL,qI,Jf (h o (aT ..)),List.any_cons,←uB (i:=i+1) fun x hx=>h x (aM _ hx)]
  cases isD k w o<;>simp
theorem Dv {base:Int} {os:List ObjD} {k:List UInt8} {w:Bool}:∀{r:List ObjD} {i:Nat},(∀o∈r,ObjGd o)→rN base os k w i r=(fw k w (dfL i r)).map fun G=>base+Ij os G
 | [],i,_=>rfl
 | o::r,i,h=>by
  rw [dfL,qI,Jf (h o (aT ..)),rN,Dv (i:=i+1) fun x hx=>h x (aM _ hx)]
  cases isD k w o
  ·simp
  ·simp only [if_true,Option.some_or,bo,Ij];rw [Int.add_assoc]
def Inv (D:Dm) (P:List GlD):Prop:=∀k,al k D=pick k P
theorem ET {base:Int} {os:List ObjD} {D:Dm} (inv:Inv D (dfL 0 os)) (hg:∀o∈os,ObjGd o) (k:List UInt8):nL base os k=(al k D).map fun G=>base+Ij os G:=by
 unfold nL;rw [Dv hg,Dv hg,inv k,pick]
 cases fw k false (dfL 0 os)<;>cases fw k true (dfL 0 os)<;>rfl
theorem zE {α:Type} {p q:α→Bool}:∀{l:List α},(∀x∈l,p x=q x)→l.any p=l.any q
 | [],_=>rfl
 | x::r,h=>by rw [List.any_cons,List.any_cons,h x (aT ..),zE fun y hy=>h y (aM _ hy)]
theorem CA {α:Type} {p:α→Bool} {l:List α} (h:∀x∈l,p x=false):l.any p=false:=by
 cases q:l.any p with
 | false=>rfl
 | true=>obtain ⟨x,hx,e⟩:=List.any_eq_true.1 q;rw [h x hx] at e;cases e
theorem Au {i:Nat} {ps:List ObjD}:∀{ys:List SymD} {D:Dm} {P:List GlD},(∀s∈ys,0≤s.sec)→(ys.map (·.name)).Nodup→Inv D P→(∀s∈ys,(fw s.name false P).isSome=ps.any (isD s.name false)) →
  match oM i ys D with
  | .error f=>twS i ps ys=.error f
  | .ok D'=>twS i ps ys=.ok ()∧Inv D' (P++dfS i ys)
 | [],D,P,_,_,inv,_=>⟨rfl,by simpa [dfS] using inv⟩
 | s::r,D,P,hs,hn,inv,hp=>by
  have h0:=hs s (aT ..);have hs':∀x∈r,0≤x.sec:=fun x hx=>hs x (aM _ hx);have hn0:s.name∉r.map (·.name):=by simp only [bI,List.nodup_cons] at hn;exact hn.1
  have hn':(r.map (·.name)).Nodup:=by simp only [bI,List.nodup_cons] at hn;exact hn.2
  have hp':∀x∈r,(fw x.name false P).isSome=ps.any (isD x.name false):=fun x hx=>hp x (aM _ hx);have hp0:=hp s (aT ..);simp only [oM,twS,dfS]
  by_cases h1:s.sec=0∨s.cn=false
  ·have ht:ps.any (twP s)=false:=CA fun x _=>by
    unfold twP;rcases h1 with h1|h1<;>simp [h1]
   rw [if_pos h1,if_pos h1,ht];exact Au (i:=i) hs' hn' inv hp'
  ·rw [if_neg h1,if_neg h1]
   have c1:0<s.sec:=by
    have:s.sec≠0:=fun e=>h1 (.inl e);omega
   have c2:s.cn=true:=by
    cases q:s.cn with
    | true=>rfl
    | false=>exact absurd (.inr q) h1
   have hG:∀x∈r,∀w,fw x.name w [⟨0,s.cm,i,s⟩]=none:=fun x hx w=>by
    rw [uA,if_neg]
    rintro ⟨e,_⟩
    exact hn0 (bP.2 ⟨x,hx,e.symm⟩)
   have bX:∀{D':Dm},Inv D' (P++[⟨0,s.cm,i,s⟩])→match oM i r D' with
     | .error f=>twS i ps r=.error f
     | .ok D''=>twS i ps r=.ok ()∧Inv D'' (P++(⟨0,s.cm,i,s⟩::dfS i r)):=fun inv'=>by
    have:=Au (i:=i) (ps:=ps) hs' hn' inv' fun x hx=>by rw [qI,hG x hx,Option.or_none];exact hp' x hx
    simpa using this
   have step:∀{D':Dm},(∀k,k≠s.name→al k D'=al k D)→al s.name D'=pick s.name (P++[⟨0,s.cm,i,s⟩])→Inv D' (P++[⟨0,s.cm,i,s⟩]):=fun {D'} q1 q2 k=>by
    by_cases hk:k=s.name
    ·subst hk;exact q2
    ·rw [q1 k hk,inv k,pick,pick,qI,qI,uA,uA,if_neg (fun q=>hk q.1.symm),if_neg (fun q=>hk q.1.symm),Option.or_none,Option.or_none]
   have put:∀k,k≠s.name→al k (ia s.name ⟨0,s.cm,i,s⟩ D)=al k D:=fun k hk=>by rw [vp,if_neg (fun e=>hk e.symm)]
   have put0:al s.name (ia s.name ⟨0,s.cm,i,s⟩ D)=some ⟨0,s.cm,i,s⟩:=by rw [vp,if_pos rfl]
   have hin:=inv s.name
   have hpk:pick s.name (P++[⟨0,s.cm,i,s⟩])=((fw s.name false P).or (if s.cm=false then some ⟨0,s.cm,i,s⟩ else none)).or ((fw s.name true P).or (if s.cm=true then some ⟨0,s.cm,i,s⟩ else none)):=by
    simp only [pick,qI,uA,true_and]
   have twt:s.cm=false→ps.any (twP s)=ps.any (isD s.name false):=fun hw=>zE fun x _=>by
    unfold twP isD
    cases h:(eD s.name x.ce).cm<;>simp [c1,c2,hw,h]
   have twf:s.cm=true→ps.any (twP s)=false:=fun hw=>CA fun x _=>by
    unfold twP;simp [hw]
   rw [pick] at hin
   cases hal:al s.name D with
   | none =>
    simp only;rw [hal] at hin;obtain ⟨f1,f2⟩:=Option.or_eq_none_iff.1 hin.symm
    have ht:ps.any (twP s)=false:=by
     cases hw:s.cm with
     | true=>exact twf hw
     | false=>rw [twt hw,←hp0,f1];rfl
    rw [ht];refine bX (step put ?_);rw [put0,hpk,f1,f2]
    cases hw:s.cm<;>simp
   | some G =>
    simp only;rw [hal] at hin
    cases hw:s.cm with
    | true =>
     simp only [if_true];rw [twf hw];simp only [hw] at bX step;refine bX (step (fun _ _=>rfl) ?_);rw [hw] at hpk;rw [hpk,hal]
     cases hf:fw s.name false P with
     | some x=>rw [hf] at hin;simpa using hin
     | none=>rw [hf] at hin;simp only [Option.none_or] at hin;rw [←hin];simp
    | false =>
     simp only [Bool.false_eq_true,if_false];rw [twt hw,←hp0]
     cases hG2:G.cm with
     | true =>
      have hf:fw s.name false P=none:=by
       cases hf:fw s.name false P with
       | none=>rfl
       | some x =>
        rw [hf] at hin;simp only [Option.some_or,Option.some.injEq] at hin;have:=EX hf;rw [←hin,hG2] at this;cases this
      simp only [if_true,hf,Option.isSome_none,Bool.false_eq_true,if_false];simp only [hw] at bX step put put0 hpk;refine bX (step put ?_);rw [put0,hpk,hf];simp
     | false =>
      have hf:(fw s.name false P).isSome=true:=by
       cases hf:fw s.name false P with
       | some x=>rfl
       | none =>
        rw [hf] at hin;simp only [Option.none_or] at hin;have:=EX hin.symm;rw [hG2] at this;cases this
      rw [hf];simp
theorem Fh {os:List ObjD} (hg:∀o∈os,ObjGd o):∀{r:List ObjD} {i:Nat} {D:Dm},os.drop i=r→Inv D (dfL 0 (os.take i)) →
  match qg i r D with
  | .error f=>twL os i r=.error f
  | .ok D'=>twL os i r=.ok ()∧Inv D' (dfL 0 os)
 | [],i,D,hi,inv=>by
  refine ⟨rfl,?_⟩;rwa [bT (by simpa using hi)] at inv
 | o::r,i,D,hi,inv=>by
  have ho:os[i]?=some o:=by
   have:(os.drop i)[0]?=some o:=by rw [hi];rfl
   simpa using this
  have hi':os.drop (i+1)=r:=by rw [←List.drop_drop,hi];rfl
  obtain ⟨hlt,ho2⟩:=List.getElem?_eq_some_iff.1 ho;have go:=hg o (bR ho);have hlen:(os.take i).length=i:=by simp;omega
  have hd:=Au (i:=i) (ps:=os.take i) (ys:=o.ce) (D:=D) (P:=dfL 0 (os.take i)) (fun s hs=>(go.ce s hs).s0) go.nodup inv fun s _=>uB fun x hx=>hg x (List.mem_of_mem_take hx);simp only [qg,twL]
  cases hq:oM i o.ce D with
  | error f=>rw [hq] at hd;simp only at hd ⊢;rw [hd]
  | ok D' =>
   rw [hq] at hd;simp only at hd ⊢;rw [hd.1];simp only;refine Fh hg hi' ?_;rw [bW hlt,Fg,hlen,ho2];simpa [dfL] using hd.2
theorem DZ {k:List UInt8}:∀{L:List SymD} {S:Sm},(L.map (·.name)).Nodup→al k (nJ L S)=if fg k L=true then some (eD k L) else al k S
 | [],S,_=>rfl
 | s::r,S,hn=>by
  simp only [bI,List.nodup_cons] at hn;rw [nJ,DZ hn.2,rx,pp]
  by_cases hk:s.name=k
  ·have hr:fg k r=false:=xo (by rw [←hk];exact hn.1);rw [hr,if_pos hk,if_pos hk,vp,if_pos hk];simp
  ·rw [if_neg hk,if_neg hk,vp,if_neg hk]
theorem EK {o:ObjD} (g:ObjGd o) {k:List UInt8} (h:fg k o.ce=true):(al k (nJ o.ce [])).getD oB=eD k o.ce:=by
 rw [DZ g.nodup,if_pos h];rfl
theorem zj {o:ObjD} {k:List UInt8} (h:∃s∈o.ce,s.name=k):fg k o.ce=true:=by
 obtain ⟨s,hs,e⟩:=h;obtain ⟨q,hq,e2⟩:=List.getElem_of_mem hs;exact ru hq (by rw [e2,e])
theorem own_def {os:List ObjD} {D:Dm} {i:Nat} {o:ObjD} (hg:∀o∈os,ObjGd o) (inv:Inv D (dfL 0 os)) (ho:os[i]?=some o) {k:List UInt8} (hk:fg k o.ce=true) (h1:(eD k o.ce).cn=true) (h2:0<(eD k o.ce).sec) :
  (al k D).isSome=true:=by
 have h:isD k (eD k o.ce).cm o=true:=by unfold isD;rw [hk,h1];simp [h2]
 have h3:(fw k (eD k o.ce).cm (dfL 0 os)).isSome=true:=by
  rw [uB hg];exact List.any_eq_true.2 ⟨o,bR ho,h⟩
 rw [inv k,pick]
 cases hw:(eD k o.ce).cm with
 | false=>rw [hw] at h3;simp [h3]
 | true=>rw [hw] at h3;simp [h3]
def ym (S:St) (N:List (List UInt8)):Prop:=∀k,k∈S.map (·.1)↔k∈N
theorem ym.put {S:St} {N:List (List UInt8)} (h:ym S N) (k:List UInt8) (x:Int):ym (ia k x S) (pn k N):=fun j=>by
 rw [pd,vG,←h j]
 split
 ·exact ⟨.inr,fun q=>q.elim (fun e=>e ▸ ‹_›) id⟩
 ·rw [bN,aN];exact ⟨fun q=>q.elim .inr .inl,fun q=>q.elim .inr .inl⟩
theorem zY {base:Int} {os:List ObjD} {D:Dm} {i:Nat} {o:ObjD} (hg:∀o∈os,ObjGd o) (inv:Inv D (dfL 0 os)) (ho:os[i]?=some o):∀{ys:List RelD} {S:St} {N:List (List UInt8)},(∀r∈ys,r∈o.ci)→ym S N →
  match resR i (nJ o.ce []) D ys S with
  | .error f=>rsR base os i o ys=.error f
  | .ok S'=>rsR base os i o ys=.ok ()∧ym S' (qe ys N)
 | [],S,N,_,h=>⟨rfl,h⟩
 | r::rest,S,N,hy,h=>by
  have go:=hg o (bR ho);have gr:=go.ci r (hy r (aT ..));have hy':∀r∈rest,r∈o.ci:=fun x hx=>hy x (aM _ hx);simp only [resR,rsR,qe]
  by_cases hk:r.kind=2
  ·rw [if_pos hk,if_neg (fun q=>q.1 hk),if_pos hk];exact zY hg inv ho hy' (h.put _ _)
  ·rw [if_neg hk,if_neg hk];have hh:=zj gr.known;rw [EK go hh];obtain ⟨gm,gn⟩:=ng hh;have so:=go.ce _ gm;rw [gn]
   have key:((eD r.sym o.ce).sec=0∧(eD r.sym o.ce).cm=false∧al r.sym D=none)↔(r.kind≠2∧(nH base os i o r.sym).isSome=false∧(eD r.sym o.ce).cm=false):=by
    unfold nH;rw [ET inv hg]
    constructor
    ·rintro ⟨q1,q2,q3⟩
     have hgl:(eD r.sym o.ce).cn=true:=by
      cases q:(eD r.sym o.ce).cn with
      | true=>rfl
      | false=>exact absurd q1 (so.gl q).1
     rw [if_pos hgl,q3];exact ⟨hk,rfl,q2⟩
    ·rintro ⟨_,q2,q3⟩
     by_cases hgl:(eD r.sym o.ce).cn=true
     ·rw [if_pos hgl] at q2
      have hn:al r.sym D=none:=by
       cases q:al r.sym D with
       | none=>rfl
       | some x=>rw [q] at q2;cases q2
      refine ⟨Classical.byContradiction fun e=>?_,q3,hn⟩;have s0:=so.s0;have:=own_def hg inv ho hh hgl (by omega);rw [hn] at this;cases this
     ·rw [if_neg hgl] at q2;cases q2
   by_cases hc:(eD r.sym o.ce).sec=0∧(eD r.sym o.ce).cm=false∧al r.sym D=none
   ·rw [if_pos hc,if_pos (key.1 hc)]
   ·rw [if_neg hc,if_neg (fun q=>hc (key.2 q))];exact zY hg inv ho hy' h
theorem Ec {base:Int} {os:List ObjD} {D:Dm} (hg:∀o∈os,ObjGd o) (inv:Inv D (dfL 0 os)):∀{r:List ObjD} {i:Nat} {S:St} {N:List (List UInt8)},os.drop i=r→ym S N →
  match qf D i r S with
  | .error f=>rsL base os i r=.error f
  | .ok S'=>rsL base os i r=.ok ()∧ym S' (gL r N)
 | [],i,S,N,_,h=>⟨rfl,h⟩
 | o::r,i,S,N,hi,h=>by
  have ho:os[i]?=some o:=by
   have:(os.drop i)[0]?=some o:=by rw [hi];rfl
   simpa using this
  have hi':os.drop (i+1)=r:=by rw [←List.drop_drop,hi];rfl
  have hd:=zY (base:=base) hg inv ho (fun r hr=>hr) h;simp only [qf,rsL,gL]
  cases hq:resR i (nJ o.ce []) D o.ci S with
  | error f=>rw [hq] at hd;simp only at hd ⊢;rw [hd]
  | ok S' =>
   rw [hq] at hd;simp only at hd ⊢;rw [hd.1];exact Ec hg inv hi' hd.2
theorem wY:∀{L:List RelD} {N:List (List UInt8)},Inc N→Inc (qe L N)
 | [],N,h=>h
 | r::rest,N,h=>by
  simp only [qe]
  split
  ·exact wY (wZ h)
  ·exact wY h
theorem B7:∀{L:List ObjD} {N:List (List UInt8)},Inc N→Inc (gL L N)
 | [],N,h=>h
 | o::r,N,h=>by simp only [gL];exact B7 (wY h)
theorem re {k:List UInt8}:∀{L:List RelD} {N:List (List UInt8)},k∈N→k∈qe L N
 | [],N,h=>h
 | r::rest,N,h=>by
  simp only [qe]
  split
  ·exact re (pd.2 (.inr h))
  ·exact re h
theorem Bh {r:RelD} (hk:r.kind=2):∀{L:List RelD} {N:List (List UInt8)},r∈L→r.sym∈qe L N
 | x::rest,N,h=>by
  rcases aW.1 h with rfl|h
  ·simp only [qe,if_pos hk];exact re (pd.2 (.inl rfl))
  ·simp only [qe];exact Bh hk h
theorem yV {k:List UInt8}:∀{L:List ObjD} {N:List (List UInt8)},k∈N→k∈gL L N
 | [],N,h=>h
 | o::r,N,h=>by simp only [gL];exact yV (re h)
theorem Bl {r:RelD} (hk:r.kind=2):∀{L:List ObjD} {N:List (List UInt8)} {o:ObjD},o∈L→r∈o.ci→r.sym∈gL L N
 | x::rest,N,o,h,hr=>by
  rcases aW.1 h with rfl|h
  ·simp only [gL];exact yV (Bh hk hr)
  ·simp only [gL];exact Bl hk h hr
theorem xa:∀{L:List SymD} {N:List (List UInt8)},Inc N→Inc (yE L N)
 | [],N,h=>h
 | r::rest,N,h=>by
  simp only [yE]
  split
  ·exact xa (wZ h)
  ·exact xa h
theorem B8:∀{L:List ObjD} {N:List (List UInt8)},Inc N→Inc (tf L N)
 | [],N,h=>h
 | o::r,N,h=>by simp only [tf];exact B8 (xa h)
theorem BP {k:List UInt8} {i:Nat}:∀{L:List SymD} {N:List (List UInt8)},(∀s∈L,0≤s.sec)→(k∈yE L N↔k∈N∨∃G∈dfS i L,G.sym.name=k)
 | [],N,_=>by simp [yE,dfS]
 | s::r,N,h=>by
  have h0:=h s (aT ..);have ih:=fun N=>BP (k:=k) (i:=i) (L:=r) (N:=N) fun x hx=>h x (aM _ hx);simp only [yE,dfS];rw [ih]
  by_cases c:s.sec=0∨s.cn=false
  ·rw [if_pos c,if_neg]
   rintro ⟨q1,q2⟩
   rcases c with c|c
   ·omega
   ·rw [c] at q1;cases q1
  ·have c1:s.cn=true∧0<s.sec:=by
    refine ⟨?_,?_⟩
    ·cases q:s.cn with
     | true=>rfl
     | false=>exact absurd (.inr q) c
    ·have:s.sec≠0:=fun e=>c (.inl e);omega
   rw [if_neg c,if_pos c1,pd];simp only [aW,exists_eq_or_imp]
   constructor
   ·rintro ((h|h)|h)
    ·exact .inr (.inl h.symm)
    ·exact .inl h
    ·exact .inr (.inr h)
   ·rintro (h|h|h)
    ·exact .inl (.inr h)
    ·exact .inl (.inl h.symm)
    ·exact .inr h
theorem BQ {k:List UInt8}:∀{L:List ObjD} {i:Nat} {N:List (List UInt8)},(∀o∈L,ObjGd o)→(k∈tf L N↔k∈N∨∃G∈dfL i L,G.sym.name=k)
 | [],i,N,_=>by simp [tf,dfL]
 | o::r,i,N,h=>by
  have ih:=fun N=>BQ (k:=k) (L:=r) (i:=i+1) (N:=N) fun x hx=>h x (aM _ hx);have go:=h o (aT ..);simp only [tf,dfL];rw [ih,BP (i:=i) fun s hs=>(go.ce s hs).s0];simp only [bN,or_assoc]
  constructor
  ·rintro (h|⟨G,h1,h2⟩|⟨G,h1,h2⟩)
   ·exact .inl h
   ·exact .inr ⟨G,.inl h1,h2⟩
   ·exact .inr ⟨G,.inr h1,h2⟩
  ·rintro (h|⟨G,h1|h1,h2⟩)
   ·exact .inl h
   ·exact .inr (.inl ⟨G,h1,h2⟩)
   ·exact .inr (.inr ⟨G,h1,h2⟩)
theorem IQ {k:List UInt8} {P:List GlD}:(pick k P).isSome=true↔∃G∈P,G.sym.name=k:=by
 unfold pick fw;rw [Option.isSome_or,bS,List.find?_isSome,List.find?_isSome]
 constructor
 ·rintro (⟨G,h1,h2⟩|⟨G,h1,h2⟩)
  ·exact ⟨G,h1,by simp at h2;exact h2.1⟩
  ·exact ⟨G,h1,by simp at h2;exact h2.1⟩
 ·rintro ⟨G,h1,h2⟩
  cases hw:G.cm with
  | false=>exact .inl ⟨G,h1,by simp [h2,hw]⟩
  | true=>exact .inr ⟨G,h1,by simp [h2,hw]⟩
theorem al_some {α:Type} {k:List UInt8} {L:List (List UInt8×α)}:k∈L.map (·.1)↔(al k L).isSome=true:=by
 have:=Fw (k:=k) (L:=L)
 cases h:al k L with
 | none=>simp only [Option.isSome_none,Bool.false_eq_true,iff_false];exact this.1 h
 | some x =>
  simp only [bF,iff_true];exact Classical.byContradiction fun q=>by rw [this.2 q] at h;cases h
theorem Ap {os:List ObjD} {D:Dm} (hg:∀o∈os,ObjGd o) (inv:Inv D (dfL 0 os)) (hn:(D.map (·.1)).Nodup):dK (D.map (·.1))=tf os [] :=
 yP hn (B8 List.Pairwise.nil) fun k=>by
  rw [al_some,inv k,IQ,BQ (i:=0) hg];simp
theorem rI {base:Int} {os:List ObjD} {D:Dm} (hg:∀o∈os,ObjGd o) (inv:Inv D (dfL 0 os)) (k:List UInt8):((al k (D1 base os D)).getD zGl).cl=(nL base os k).getD 0:=by
 rw [ET inv hg,al_D1]
 cases al k D with
 | none=>rfl
 | some G=>exact DQ
theorem Bv {base code:Int} {os:List ObjD} {e:Int} (h:e≠0):∀{r:List ObjD} {i:Nat},nW base code os i r e=.ok e
 | [],i=>rfl
 | o::r,i=>by rw [nW,if_neg (fun q=>h q.2)];exact Bv h
theorem Cj {base code:Int} {os:List ObjD} {D:Dm} (hg:∀o∈os,ObjGd o) (inv:Inv D (dfL 0 os)):∀{r:List ObjD} {i:Nat},(∀o∈r,tS o=0)→nW base code os i r 0=tR base code (D1 base os D) i r
 | [],i,_=>rfl
 | o::r,i,h=>by
  have ih:=Cj (base:=base) (code:=code) hg inv (r:=r) (i:=i+1) fun x hx=>h x (aM _ hx);simp only [nW,tR]
  by_cases he:o.entry=[]
  ·rw [if_neg (fun q=>q.1 he),if_pos he];exact ih
  ·obtain ⟨e1,e2,e3⟩:=Fe (h o (aT ..)) he;rw [if_pos ⟨he,by trivial⟩,if_neg he,rI hg inv];have ha:nH base os i o o.entry=nL base os o.entry:=by unfold nH;rw [if_pos e3]
   rw [ha]
   by_cases hc:(nL base os o.entry).getD 0<base∨base+code≤(nL base os o.entry).getD 0∨(nL base os o.entry).getD 0=0
   ·rw [if_pos hc,if_pos (by omega)]
   ·rw [if_neg hc,if_neg (by omega),Bv (by omega)]
theorem leB_U4 (n:Int):leB (U n) 4=leB (U4 n) 4:=by
 have e:∀a:Nat,UInt8.ofNat a=UInt8.ofNat (a % 256):=fun a=>by
  apply UInt8.toNat_inj.1;simp
 simp only [leB];have h:U4 n=U n % 4294967296:=by unfold U U4;omega
 have a1:U n % 256=U n % 4294967296 % 256:=by omega
 have a2:U n / 256 % 256=U n % 4294967296 / 256 % 256:=by omega
 have a3:U n / 256 / 256 % 256=U n % 4294967296 / 256 / 256 % 256:=by omega
 have a4:U n / 256 / 256 / 256 % 256=U n % 4294967296 / 256 / 256 / 256 % 256:=by omega
 rw [h,e (U n),e (U n / 256),e (U n / 256 / 256),e (U n / 256 / 256 / 256),a1,a2,a3,a4,←e,←e,←e,←e]
theorem D7 {cb:Int}:∀{N:List (List UInt8)} {q j:Nat} (hj:j<N.length),N.Nodup→mO cb N[j] q N=cb+8 * ((q+j:Nat):Int)
 | x::r,q,0,_,_=>by simp [mO]
 | x::r,q,j+1,hj,hn=>by
  simp only [List.nodup_cons] at hn;have hj':j<r.length:=by simpa using hj
  have hne:¬x=r[j]:=fun e=>hn.1 (by rw [e];exact aP hj');simp only [List.getElem_cons_succ,mO,if_neg hne];rw [D7 hj' hn.2]
  congr 2;omega
theorem yR {base:Int} {os:List ObjD} {S:St} (hn:(S.map (·.1)).Nodup) {k:List UInt8} (hk:k∈dK (S.map (·.1))):(al k (S1 base os S)).getD 0=mO (base+(fM os:Nat)) k 0 (dK (S.map (·.1))):=by
 obtain ⟨j,hj,e⟩:=List.getElem_of_mem hk;have h1:=sA (a:=base+(fM os:Nat)) (S:=S) hj (nQ hn);have h2:=D7 (cb:=base+(fM os:Nat)) (q:=0) hj (nQ hn);rw [e] at h1 h2;unfold S1;rw [h1,h2,aH];rfl
theorem Eb {base:Int} {os:List ObjD} {D:Dm} {S:St} {i:Nat} {o:ObjD} (hg:∀o∈os,ObjGd o) (inv:Inv D (dfL 0 os)) (hn:(S.map (·.1)).Nodup) (hS:dK (S.map (·.1))=gL os []) (ho:os[i]?=some o):∀{ys:List RelD} {bs:List UInt8},(∀r∈ys,r∈o.ci) →
  CZ base (base+(fM os:Nat)) os (gL os []) i o ys bs=yy base os (nJ o.ce []) (D1 base os D) (S1 base os S) i ys bs
 | [],bs,_=>rfl
 | r::rest,bs,hy=>by
  have go:=hg o (bR ho);have gr:=go.ci r (hy r (aT ..));have hh:=zj gr.known;obtain ⟨gm,gn⟩:=ng hh;have so:=go.ce _ gm
  have ha:adr base os (D1 base os D) i (eD r.sym o.ce)=(nH base os i o r.sym).getD 0:=by
   unfold adr nH;rw [gn,rI hg inv]
   by_cases hgl:(eD r.sym o.ce).cn=true
   ·rw [if_neg (by rw [hgl];simp),if_pos hgl]
   ·rw [if_pos ⟨(so.gl (by simpa using hgl)).1,by simpa using hgl⟩,if_neg hgl];rfl
  have hv:yw base (base+(fM os:Nat)) os (gL os []) i o r=H8 base os (nJ o.ce []) (D1 base os D) (S1 base os S) i r:=by
   unfold yw H8;rw [EK go hh,ha]
   by_cases h2:r.kind=2
   ·rw [if_neg (by omega),if_pos h2,if_pos h2,yR hn (by rw [hS];exact Bl h2 (bR ho) (hy r (aT ..))),hS];omega
   ·rw [if_neg h2,if_neg h2]
    split<;>omega
  simp only [CZ,yy];rw [hv,leB_U4];exact Eb hg inv hn hS ho fun x hx=>hy x (aM _ hx)
theorem Bn {base:Int} {os:List ObjD} {D:Dm} {S:St} (hg:∀o∈os,ObjGd o) (inv:Inv D (dfL 0 os)) (hn:(S.map (·.1)).Nodup) (hS:dK (S.map (·.1))=gL os []):∀{r:List ObjD} {i:Nat} {bs:List UInt8},os.drop i=r →
  yx base (base+(fM os:Nat)) os (gL os []) i r bs=sG base os (D1 base os D) (S1 base os S) i r bs
 | [],i,bs,_=>rfl
 | o::r,i,bs,hi=>by
  have ho:os[i]?=some o:=by
   have:(os.drop i)[0]?=some o:=by rw [hi];rfl
   simpa using this
  have hi':os.drop (i+1)=r:=by rw [←List.drop_drop,hi];rfl
  simp only [yx,sG];rw [Eb hg inv hn hS ho fun r hr=>hr];exact Bn hg inv hn hS hi'
theorem wD (os:List ObjD) (base:Int):ud os base=mY os base:=by
 unfold ud mY
 split
 ·rfl
 ·split
  ·rfl
  ·split
   ·rfl
   ·unfold rfP
    cases hc:eB 0 os with
    | error f=>rfl
    | ok u =>
     have hg:=ou hc;have hE:=pT hc;have hd:=Fh hg (r:=os) (i:=0) (D:=[]) rfl (fun k=>rfl);simp only
     cases hD:qg 0 os [] with
     | error f=>rw [hD] at hd;simp only at hd;rw [hd]
     | ok D =>
      rw [hD] at hd;simp only at hd;obtain ⟨h1,inv⟩:=hd;obtain ⟨_,hnD,_⟩:=Av (os:=os) (r:=os) (i:=0) rfl (fun o ho=>(hg o ho).nsym) hD (fun p hp=>by cases hp) List.nodup_nil;have hr:=Ec (base:=base) hg inv (r:=os) (i:=0) (S:=[]) (N:=[]) rfl (fun k=>Iff.rfl);rw [h1];simp only
      cases hS:qf D 0 os [] with
      | error f=>rw [hS] at hr;simp only at hr;rw [hr]
      | ok S =>
       rw [hS] at hr;simp only at hr;obtain ⟨h2,sk⟩:=hr;obtain ⟨_,hnS,_⟩:=z6 (os:=os) (r:=os) (i:=0) (fun o ho=>⟨ho,(hg o ho).nrel⟩) hS (fun p hp=>by cases hp) List.nodup_nil;have hK:dK (S.map (·.1))=gL os []:=yP hnS (B7 List.Pairwise.nil) sk;have hlen:(gL os []).length=S.length:=by rw [←hK];exact jV S
       have hsz:oW os=eQ os S:=by unfold oW eQ;rw [hlen]
       rw [h2];simp only;rw [hsz]
       by_cases hb:131072<eQ os S
       ·rw [if_pos hb,if_pos hb]
       ·rw [if_neg hb,if_neg hb];simp only;rw [Cj hg inv hE]
        cases tR base (upN (dJ os):Nat) (D1 base os D) 0 os with
        | error f=>rfl
        | ok e =>
         simp only
         have hx:nV base os (tf os [])=jC (D1 base os D) (dK ((D1 base os D).map (·.1))):=by
          rw [FB,Ap hg inv hnD];unfold nV jC;exact List.map_congr_left fun k _=>by rw [rI hg inv]
         have hy:iT base (base+(fM os:Nat)) os (gL os []) (gL os [])=fE (D1 base os D) (S1 base os S) (dK ((S1 base os S).map (·.1))):=by
          rw [pW,hK];unfold iT fE;exact List.map_congr_left fun k hk=>by rw [rI hg inv,yR hnS (by rw [hK];exact hk),hK]
         unfold Bo;rw [hx,hy,Bn hg inv hnS hK (r:=os) (i:=0) rfl,hsz]
end Go.Proofs.OP
namespace Go.Proofs.OP
open Go Go.Ev
open Go.Proofs
open Nat renaming reduceLT → rL, reduceEqDiff → rD, reduceBEq → rB
variable {g : T (List V)}
instance:DecidableEq ExpD:=fun a b=>if h:a.name=b.name∧a.cl=b.cl then isTrue (by cases a;cases b;simp at h;simp [h]) else isFalse (by rintro rfl;simp at h)
instance:DecidableEq SlotD:=fun a b=>if h:a.name=b.name∧a.cl=b.cl∧a.bound=b.bound then isTrue (by cases a;cases b;simp at h;simp [h]) else isFalse (by rintro rfl;simp at h)
theorem eqT_i30 {n:Nat} {a b:Int}:eqT (E g) (n+1) 33 (.int .i64 a) (.int .i64 b)=some (decide (a=b)):=by
 simp only [eqT,mG,mP,if_true]
theorem neq73 {h:H} {c:Bool} {a:Int×Int}:fJ (E g) h c .neq 35 (.agg (cG a)) (.agg (cG a))=some (.bool false):=by
 have:eqV (E g) h 35 (.agg (cG a)) (.agg (cG a))=some true:=by
  simp only [eqV,cP,JS,show es.contains 35=true from rfl,cond_true];simp only [np,oa,ty3,mG,TI.agg,cond_false,cG,nth,i64,eqT_i3,eqT_i30,show (("At":String) == "_")=false from rfl,show (("Code":String) == "_")=false from rfl,decide_true]
 simp only [fJ,this,bo,aV]
end Go.Proofs.OP
namespace Go.Proofs.OP
open Go Go.Ev
open Go.Proofs
variable {g : T (List V)}
theorem fn19:(E g).fns.get 19=some {nt:=95,body:=Tryd.f19.body.get!,res:=[.tmp 4]}:=by rw [dg];exact dt (FI.of_mk Tryd.func19 (show Tryd.f19.body=some Tryd.f19.body.get! by kernel_rfl) (by kernel_rfl) (show Tryd.f19.ntmps=95 by kernel_rfl) (show Tryd.f19.results.toList=[.tmp 4] by kernel_rfl)) rfl
theorem fn20:(E g).fns.get 20=some {nt:=88,body:=Tryd.f20.body.get!,res:=[.tmp 2,.tmp 3]}:=by rw [dg];exact dt (FI.of_mk Tryd.func20 (show Tryd.f20.body=some Tryd.f20.body.get! by kernel_rfl) (by kernel_rfl) (show Tryd.f20.ntmps=88 by kernel_rfl) (show Tryd.f20.results.toList=[.tmp 2,.tmp 3] by kernel_rfl)) rfl
theorem fn21:(E g).fns.get 21=some {nt:=92,body:=Tryd.f21.body.get!,res:=[.tmp 2,.tmp 3]}:=by rw [dg];exact dt (FI.of_mk Tryd.func21 (show Tryd.f21.body=some Tryd.f21.body.get! by kernel_rfl) (by kernel_rfl) (show Tryd.f21.ntmps=92 by kernel_rfl) (show Tryd.f21.results.toList=[.tmp 2,.tmp 3] by kernel_rfl)) rfl
end Go.Proofs.OP
namespace Go.Proofs.OP
open Go Go.Ev
def IP:List (List Stp):=[[⟨0,false,true,[]⟩,⟨1,false,false,[]⟩,⟨2,false,true,[]⟩,⟨3,false,false,[]⟩,⟨4,false,false,[]⟩,⟨5,false,true,[]⟩,⟨6,false,true,[]⟩]]
def Ey:List (List Stp):=[[⟨0,false,true,[]⟩,⟨1,false,false,[]⟩,⟨2,false,true,[]⟩,⟨3,false,false,[]⟩,⟨4,false,false,[]⟩,⟨5,false,true,[]⟩,⟨6,false,true,[]⟩]]
def IOq:List (List Stp):=[[⟨2,false,false,[]⟩,⟨3,false,true,[]⟩,⟨5,false,false,[]⟩,⟨6,false,true,[]⟩,⟨7,false,true,[]⟩,⟨9,false,false,[]⟩,⟨10,false,true,[]⟩,⟨12,false,false,[]⟩,⟨13,false,true,[]⟩,⟨0,true,false,[13,10,7,6,3]⟩,⟨1,true,false,[13,10,7,6,3]⟩,⟨4,true,false,[13,10,7,6]⟩,⟨8,true,false,[13,10]⟩,⟨11,true,false,[13]⟩,⟨14,true,false,[]⟩,⟨15,true,false,[]⟩]]
def IL:List (List Stp):=[[⟨0,false,false,[]⟩,⟨1,false,false,[]⟩,⟨2,false,true,[]⟩,⟨4,false,false,[]⟩,⟨5,false,true,[]⟩,⟨3,true,false,[5]⟩,⟨6,true,false,[]⟩,⟨7,true,false,[]⟩]]
def Ew:List (List Stp):=[[⟨0,false,false,[]⟩,⟨1,false,false,[]⟩,⟨2,false,true,[]⟩,⟨4,false,false,[]⟩,⟨5,false,true,[]⟩,⟨7,false,false,[]⟩,⟨8,false,true,[]⟩,⟨3,true,false,[8,5]⟩,⟨6,true,false,[8]⟩,⟨9,true,false,[]⟩,⟨10,true,false,[]⟩]]
end Go.Proofs.OP
