/- Walks: To. -/
import Derived.Test.YtloblhhnlaaajaaDoorY19
set_option maxHeartbeats 8000000
set_option maxRecDepth 100000
set_option linter.unusedVariables false
set_option linter.unusedSimpArgs false
set_option linter.defProp false
namespace Go.Proofs.OP
open Go Go.Ev
open Go.Proofs
open Nat renaming reduceLT → rL, reduceEqDiff → rD, reduceBEq → rB
variable {g : T (List V)}
def pre25:List Stp:=[⟨0,false,false,[]⟩,⟨1,false,true,[]⟩,⟨3,false,false,[]⟩,⟨4,false,true,[]⟩,⟨7,false,false,[]⟩,⟨8,false,true,[]⟩,⟨11,false,false,[]⟩,⟨12,false,true,[]⟩,⟨14,false,false,[]⟩,⟨15,false,true,[]⟩]
def oS:rO:=[(⟨2,true,false,[15,12,8,4,1]⟩,10,[]),(⟨5,true,false,[15,12,8,1]⟩,13,[2]),(⟨6,true,false,[15,12,8,4,1]⟩,14,[]),(⟨9,true,false,[15,12,1]⟩,17,[6]),(⟨10,true,false,[15,12,8,4,1]⟩,18,[]),(⟨13,true,false,[15,1]⟩,21,[10]),(⟨16,false,false,[]⟩,24,[5,9,13]),(⟨17,true,false,[15,12,8,4,1]⟩,3,[])]
def AF (n0:Nat) (h:H) (e:Nat) (v:V):Prop:=∃b,v=.slice b 0 0 (.lit 0)∧n0≤b∧b<h.bX∧∃t N d k,h.t.get b=some (.cells t N d e k)
theorem AF.fix {n0:Nat} {h h':H} {e:Nat} {v:V} (a:AF n0 h e v) (f:Fix (·<h.bX) h h'):AF n0 h' e v:=by
 obtain ⟨b,a1,a2,a3,t,N,d,k,a4⟩:=a;have:=f.bX;exact ⟨b,a1,a2,by omega,t,N,d,k,by rw [f.ca b a3];exact a4⟩
def Own (g:T (List V)) (n0:Nat) (h:H) (e:Nat) (v:V) (vs:List V):Prop:=Buf (E g) h e 1 v vs.length vs∧In (fun b=>n0≤b∧b<h.bX) v∧El h e v
theorem Own.fix {n0:Nat} {h h':H} {e:Nat} {v:V} {vs:List V} (a:Own g n0 h e v vs) (f:Fix (·<h.bX) h h'):Own g n0 h' e v vs:=by
 obtain ⟨a1,a2,a3⟩:=a;have:=f.bX;exact ⟨a1.fix (a2.sub fun _ hx=>hx.2) f,a2.sub fun _ hx=>⟨hx.1,by omega⟩,a3.fix (a2.sub fun _ hx=>hx.2) f⟩
def JQ (n0:Nat) (h:H) (e:Nat) (zs:List V) (v:V):Prop:=∃b,v=.ptr b 0∧n0≤b∧b<h.bX∧Has h b zs∧∃t m d k,h.t.get b=some (.cells t m d e k)
theorem JQ.fix {n0:Nat} {h h':H} {e:Nat} {zs:List V} {v:V} (a:JQ n0 h e zs v) (f:Fix (·<h.bX) h h'):JQ n0 h' e zs v:=by
 obtain ⟨b,a1,a2,a3,a4,t,m,d,k,a5⟩:=a;have:=f.bX;exact ⟨b,a1,a2,by omega,a4.fix f a3,t,m,d,k,by rw [f.ca b a3];exact a5⟩
def P25 (g:T (List V)) (n0:Nat) (o:ObjD):Nat→V→H→Prop
 | 2,v,h=>AF n0 h 5 v
 | 5,v,h=>Own g n0 h 5 v (o.code.map u8)
 | 6,v,h=>AF n0 h 5 v
 | 9,v,h=>Own g n0 h 5 v (o.data.map u8)
 | 10,v,h=>AF n0 h 9 v
 | 13,v,h=>Own g n0 h 9 v (o.cf.map V.str)
 | 16,v,h=>∃x y z,v=.agg [.str o.name,x,y,.nils,.nils,z,.str o.entry]∧Own g n0 h 5 x (o.code.map u8)∧Own g n0 h 5 y (o.data.map u8)∧Own g n0 h 9 z (o.cf.map V.str)
 | 17,v,h=>JQ n0 h 77 [.str [],.nils,.nils,.nils,.nils,.nils,.str []] v
 | _,_,_=>True
theorem De {xs:List UInt8}:(xs.map u8).all V.one=true:=by simp [bH,u8,V.one]
theorem jt {xs:List (List UInt8)}:(xs.map V.str).all V.one=true:=by simp [bH,V.one]
theorem build77 {n e:List UInt8} {x y z:V} (hx:x.cells=[x]) (hy:y.cells=[y]) (hz:z.cells=[z]):dY (E g) 77 [(0,.str n),(1,x),(2,y),(5,z),(6,.str e)]=some (.agg [.str n,x,y,.nils,.nils,z,.str e]):=by
 simp only [dY,iq,cW,nth,cL ty9,cL cM,cL cD,hx,hy,hz,List.all_cons,List.all_nil,ty9,cM,oO,mF,cD,bF,Bool.and_true,aV,cond_false]
 rfl
theorem fill5 {a b c d e:V} {cs:List V} (h:cs.length=5):cW (fun k=>some (k * 5,5)) (j8 [a,b,c,d,e] 1) [(0,.agg cs)]=some cs:=by
 match cs,h with
 | [_,_,_,_,_],_=>rfl
theorem jU (x:SymD):(iD x).length=5:=rfl
theorem jh (x:RelD):(oY x).length=5:=rfl
theorem jD (x:SymD):(iD x).all V.one=true:=rfl
theorem oX (x:RelD):(oY x).all V.one=true:=rfl
theorem zt {α:Type} (f:α→List V) {L:List α} {i:Nat} (hi:i<L.length):(L.take (i+1)).flatMap f=(L.take i).flatMap f++f L[i]:=by
 rw [bW hi,List.flatMap_append,bM,List.flatMap_nil,List.append_nil]
theorem to_ok {h:H} {c:Oc} {o:ObjD} (ob:Ob g h (·<h.bX) c o) (fit:Fits o):WF (E g) 25 [.agg (c.cells o)] h fun v h'=>∃c',v=.agg (c'.cells o)∧Ob g h' (fun b=>h.bX≤b∧b<h'.bX) c' o∧cH h h':=by
 have fs:=fit.ce;have fr:=fit.ci;have fn:=fit.cf;have fc:=fit.code;have fd:=fit.data;refine WF.enter fn25 rfl ?_;refine au ?_;refine eI (v:=.agg (c.cells o)) (by (try simp only [aE,rL,rD,rB,reduceIte])) ?_;intro h1 b1 n1 f1;refine az ?_;have b1:Has h1 h.bX [.str o.name,c.code,c.data,c.ce,c.ci,c.cf,.str o.entry]:=b1;have ob1:=(ob.fix f1 (fun _ h=>h)).up (K':=(·<h1.bX)) (fun _ h=>by omega);refine cz iq ?_
 intro h2 b2 n2 f2;refine az ?_;have c2:=b1.fix f2;have ob2:=(ob1.fix f2 (fun _ h=>h)).up (K':=(·<h2.bX)) (fun _ h=>by omega);refine aw ?_;refine WC.draw2 (pre:=pre25) (ss:=oS) (all:=[16,17]) (tail:=[⟨18,true,false,[]⟩]) (by kernel_rfl) ?_;intro q hq;simp only [pre25,List.cons_append,List.nil_append];(try simp (maxSteps:=2000000) only [aE,rL,rD,rB,reduceIte,af,Chk,nj,jm,jl,iW,hJ,aH,c2.at ty9 rfl,c2.at cM rfl,c2.at cD rfl])
 refine dR.fresh (P:=P25 g h2.bX o) (ss:=oS) (by rfl) ?_ ?_ ?_ hq
 ·intro s d need hm v k k' hv ff;simp only [oS,aW,List.not_mem_nil,or_false,Prod.mk.injEq] at hm
  rcases hm with ⟨rfl,-,-⟩|⟨rfl,-,-⟩|⟨rfl,-,-⟩|⟨rfl,-,-⟩|⟨rfl,-,-⟩|⟨rfl,-,-⟩|⟨rfl,-,-⟩|⟨rfl,-,-⟩
  ·exact AF.fix hv ff
  ·exact Own.fix hv ff
  ·exact AF.fix hv ff
  ·exact Own.fix hv ff
  ·exact AF.fix hv ff
  ·exact Own.fix hv ff
  ·obtain ⟨x,y,z,q1,q2,q3,q4⟩:=hv;exact ⟨x,y,z,q1,q2.fix ff,q3.fix ff,q4.fix ff⟩
  ·exact JQ.fix hv ff
 ·intro s d need hm ts k ff hk hd;have x2:=ff.bX;have ob:=(ob2.fix ff (fun _ h=>h)).up (K':=(·<k.bX)) (fun _ h=>by omega);have bk:=c2.fix ff;have e9:ts.get 9=some (.str o.name):=(hk 9 rfl).trans (by (try simp only [aE,rL,rD,rB,reduceIte]));have e12:ts.get 12=some c.code:=(hk 12 rfl).trans (by (try simp only [aE,rL,rD,rB,reduceIte]));have e16:ts.get 16=some c.data:=(hk 16 rfl).trans (by (try simp only [aE,rL,rD,rB,reduceIte]))
  have e20:ts.get 20=some c.cf:=(hk 20 rfl).trans (by (try simp only [aE,rL,rD,rB,reduceIte]));have e23:ts.get 23=some (.str o.entry):=(hk 23 rfl).trans (by (try simp only [aE,rL,rD,rB,reduceIte]));have e8:ts.get 8=some (.ptr h.bX 0):=(hk 8 rfl).trans (by (try simp only [aE,rL,rD,rB,reduceIte]));have e11:ts.get 11=some (.ptr h.bX 1):=(hk 11 rfl).trans (by (try simp only [aE,rL,rD,rB,reduceIte]));have e15:ts.get 15=some (.ptr h.bX 2):=(hk 15 rfl).trans (by (try simp only [aE,rL,rD,rB,reduceIte]))
  have e19:ts.get 19=some (.ptr h.bX 5):=(hk 19 rfl).trans (by (try simp only [aE,rL,rD,rB,reduceIte]));have e22:ts.get 22=some (.ptr h.bX 6):=(hk 22 rfl).trans (by (try simp only [aE,rL,rD,rB,reduceIte]));simp only [oS,aW,List.not_mem_nil,or_false,Prod.mk.injEq] at hm
  rcases hm with ⟨rfl,rfl,rfl⟩|⟨rfl,rfl,rfl⟩|⟨rfl,rfl,rfl⟩|⟨rfl,rfl,rfl⟩|⟨rfl,rfl,rfl⟩|⟨rfl,rfl,rfl⟩|⟨rfl,rfl,rfl⟩|⟨rfl,rfl,rfl⟩
  ·(try simp (maxSteps:=2000000) only [aE,rL,rD,rB,reduceIte,af,Chk,qh,e8,e9,e11,e12,e15,e16,e19,e20,e22,e23]);refine nT cM rfl ty5 rfl (by decide) (by decide) rfl rfl ?_;intro k3 b3 n3 f3;have bk3:=bk.fix f3;(try simp (maxSteps:=2000000) only [aE,rL,rD,rB,reduceIte,af,Chk,e8,e9,e11,e12,e15,e16,e19,e20,e22,e23,bk3.at ty9 rfl,bk3.at cM rfl,bk3.at cD rfl]);exact ⟨_,rfl,f3,k.bX,rfl,by omega,by omega,_,_,_,_,b3⟩
  ·obtain ⟨v,v1,b,rfl,v2,v3,t,N,dd,kk,v4⟩:=hd _ _ _ (show ((⟨2,true,false,[15,12,8,4,1]⟩,10,[]):Stp×Nat×List Nat)∈oS by simp [oS]) (by simp);(try simp (maxSteps:=2000000) only [aE,rL,rD,rB,reduceIte,af,Chk,qh,e8,e9,e11,e12,e15,e16,e19,e20,e22,e23,v1]);refine wt (m:=(o.code.map u8).length) (ws:=o.code.map u8) v4 v3 cM rfl cM (.inl ⟨_,rfl⟩) ty5 rfl (by decide) (by decide) (by simpa using Sl.len ob.code) (by simpa using Sl.cells ob.code) (by simp) De (by simp;omega) ?_
   intro s3 k3 g3 o3 el3 f3 n3;have bk3:=bk.fix f3;(try simp (maxSteps:=2000000) only [aE,rL,rD,rB,reduceIte,af,Chk,e8,e9,e11,e12,e15,e16,e19,e20,e22,e23,v1,bk3.at ty9 rfl,bk3.at cM rfl,bk3.at cD rfl]);refine ⟨_,rfl,f3,g3,fun b' o k c e=>?_,el3⟩;obtain ⟨q1,q2⟩:=o3 _ _ _ _ e;exact ⟨by rcases q1 with rfl|rfl<;>omega,q2⟩
  ·(try simp (maxSteps:=2000000) only [aE,rL,rD,rB,reduceIte,af,Chk,qh,e8,e9,e11,e12,e15,e16,e19,e20,e22,e23]);refine nT cM rfl ty5 rfl (by decide) (by decide) rfl rfl ?_;intro k3 b3 n3 f3;have bk3:=bk.fix f3;(try simp (maxSteps:=2000000) only [aE,rL,rD,rB,reduceIte,af,Chk,e8,e9,e11,e12,e15,e16,e19,e20,e22,e23,bk3.at ty9 rfl,bk3.at cM rfl,bk3.at cD rfl]);exact ⟨_,rfl,f3,k.bX,rfl,by omega,by omega,_,_,_,_,b3⟩
  ·obtain ⟨v,v1,b,rfl,v2,v3,t,N,dd,kk,v4⟩:=hd _ _ _ (show ((⟨6,true,false,[15,12,8,4,1]⟩,14,[]):Stp×Nat×List Nat)∈oS by simp [oS]) (by simp);(try simp (maxSteps:=2000000) only [aE,rL,rD,rB,reduceIte,af,Chk,qh,e8,e9,e11,e12,e15,e16,e19,e20,e22,e23,v1]);refine wt (m:=(o.data.map u8).length) (ws:=o.data.map u8) v4 v3 cM rfl cM (.inl ⟨_,rfl⟩) ty5 rfl (by decide) (by decide) (by simpa using Sl.len ob.data) (by simpa using Sl.cells ob.data) (by simp) De (by simp;omega) ?_
   intro s3 k3 g3 o3 el3 f3 n3;have bk3:=bk.fix f3;(try simp (maxSteps:=2000000) only [aE,rL,rD,rB,reduceIte,af,Chk,e8,e9,e11,e12,e15,e16,e19,e20,e22,e23,v1,bk3.at ty9 rfl,bk3.at cM rfl,bk3.at cD rfl]);refine ⟨_,rfl,f3,g3,fun b' o k c e=>?_,el3⟩;obtain ⟨q1,q2⟩:=o3 _ _ _ _ e;exact ⟨by rcases q1 with rfl|rfl<;>omega,q2⟩
  ·(try simp (maxSteps:=2000000) only [aE,rL,rD,rB,reduceIte,af,Chk,qh,e8,e9,e11,e12,e15,e16,e19,e20,e22,e23]);refine nT cD rfl ty9 rfl (by decide) (by decide) rfl rfl ?_;intro k3 b3 n3 f3;have bk3:=bk.fix f3;(try simp (maxSteps:=2000000) only [aE,rL,rD,rB,reduceIte,af,Chk,e8,e9,e11,e12,e15,e16,e19,e20,e22,e23,bk3.at ty9 rfl,bk3.at cM rfl,bk3.at cD rfl]);exact ⟨_,rfl,f3,k.bX,rfl,by omega,by omega,_,_,_,_,b3⟩
  ·obtain ⟨v,v1,b,rfl,v2,v3,t,N,dd,kk,v4⟩:=hd _ _ _ (show ((⟨10,true,false,[15,12,8,4,1]⟩,18,[]):Stp×Nat×List Nat)∈oS by simp [oS]) (by simp);(try simp (maxSteps:=2000000) only [aE,rL,rD,rB,reduceIte,af,Chk,qh,e8,e9,e11,e12,e15,e16,e19,e20,e22,e23,v1]);refine wt (m:=(o.cf.map V.str).length) (ws:=o.cf.map V.str) v4 v3 cD rfl cD (.inl ⟨_,rfl⟩) ty9 rfl (by decide) (by decide) (by simpa using Sl.len ob.cf) (by simpa using Sl.cells ob.cf) (by simp) jt (by simp;omega) ?_
   intro s3 k3 g3 o3 el3 f3 n3;have bk3:=bk.fix f3;(try simp (maxSteps:=2000000) only [aE,rL,rD,rB,reduceIte,af,Chk,e8,e9,e11,e12,e15,e16,e19,e20,e22,e23,v1,bk3.at ty9 rfl,bk3.at cM rfl,bk3.at cD rfl]);refine ⟨_,rfl,f3,g3,fun b' o k c e=>?_,el3⟩;obtain ⟨q1,q2⟩:=o3 _ _ _ _ e;exact ⟨by rcases q1 with rfl|rfl<;>omega,q2⟩
  ·obtain ⟨x,x1,x2',x3,x4⟩:=hd _ _ _ (show ((⟨5,true,false,[15,12,8,1]⟩,13,[2]):Stp×Nat×List Nat)∈oS by simp [oS]) (by simp);obtain ⟨y,y1,y2,y3,y4⟩:=hd _ _ _ (show ((⟨9,true,false,[15,12,1]⟩,17,[6]):Stp×Nat×List Nat)∈oS by simp [oS]) (by simp);obtain ⟨z,z1,z2,z3,z4⟩:=hd _ _ _ (show ((⟨13,true,false,[15,1]⟩,21,[10]):Stp×Nat×List Nat)∈oS by simp [oS]) (by simp);(try simp (maxSteps:=2000000) only [aE,rL,rD,rB,reduceIte,af,Chk,qh,e8,e9,e11,e12,e15,e16,e19,e20,e22,e23,x1,y1,z1,build77 x2'.sl.one.1 y2.sl.one.1 z2.sl.one.1])
   exact ⟨_,rfl,Fix.refl _ _,x,y,z,rfl,⟨x2',x3,x4⟩,⟨y2,y3,y4⟩,⟨z2,z3,z4⟩⟩
  ·(try simp (maxSteps:=2000000) only [aE,rL,rD,rB,reduceIte,af,Chk,qh,e8,e9,e11,e12,e15,e16,e19,e20,e22,e23]);refine CI iq ?_;intro k3 b3 t3 n3 f3;have bk3:=bk.fix f3;(try simp (maxSteps:=2000000) only [aE,rL,rD,rB,reduceIte,af,Chk,e8,e9,e11,e12,e15,e16,e19,e20,e22,e23,bk3.at ty9 rfl,bk3.at cM rfl,bk3.at cD rfl]);exact ⟨_,rfl,f3,k.bX,rfl,by omega,by omega,b3,t3⟩
 ·intro ts k ff hk hd;have x2:=ff.bX;have ob:Ob g k (·<h.bX) c o:=(((ob.fix f1 fun _ h=>h).fix f2 fun _ _=>by omega)).fix ff fun _ _=>by omega
  have bk:=c2.fix ff;have d2:=b2.fix ff;have e1:ts.get 1=some (.ptr h.bX 0):=(hk 1 rfl).trans (by (try simp only [aE,rL,rD,rB,reduceIte]));have e2:ts.get 2=some (.ptr h1.bX 0):=(hk 2 rfl).trans (by (try simp only [aE,rL,rD,rB,reduceIte]));obtain ⟨v,v1,x,y,z,rfl,⟨x1,x3,x4⟩,⟨y1,y3,y4⟩,⟨z1,z3,z4⟩⟩:=hd _ _ _ (show ((⟨16,false,false,[]⟩,24,[5,9,13]):Stp×Nat×List Nat)∈oS by simp [oS]) (by simp);obtain ⟨w,w1,b3,rfl,w2,w3,w4,tt,tm,td,tk,w5⟩:=hd _ _ _ (show ((⟨17,true,false,[15,12,8,4,1]⟩,3,[]):Stp×Nat×List Nat)∈oS by simp [oS]) (by simp)
  have nx:In (fun b=>h2.bX≤b∧b<k.bX∧b≠b3) x:=fun b o n c q=>⟨(x3 _ _ _ _ q).1,(x3 _ _ _ _ q).2,by
   rintro rfl
   obtain ⟨t,m,d,kk,q'⟩:=x4 _ _ _ _ q
   rw [w5] at q';simp at q'⟩
  have ny:In (fun b=>h2.bX≤b∧b<k.bX∧b≠b3) y:=fun b o n c q=>⟨(y3 _ _ _ _ q).1,(y3 _ _ _ _ q).2,by
   rintro rfl
   obtain ⟨t,m,d,kk,q'⟩:=y4 _ _ _ _ q
   rw [w5] at q';simp at q'⟩
  have nz:In (fun b=>h2.bX≤b∧b<k.bX∧b≠b3) z:=fun b o n c q=>⟨(z3 _ _ _ _ q).1,(z3 _ _ _ _ q).2,by
   rintro rfl
   obtain ⟨t,m,d,kk,q'⟩:=z4 _ _ _ _ q
   rw [w5] at q';simp at q'⟩
  (try simp (maxSteps:=2000000) only [aE,rL,rD,rB,reduceIte,af,Chk,v1,w1]);refine cq w4 iq rfl (by simp) (by simp only [V.cells,List.all_cons,List.all_nil,x1.sl.one.2,y1.sl.one.2,z1.sl.one.2,Bool.and_true];rfl) ?_;intro k4 d4 n4 f4;have d4:Has k4 b3 [.str o.name,x,y,.nils,.nils,z,.str o.entry]:=d4;have bk4:=bk.fix f4;have ob4:Ob g k4 (·<h.bX) c o:=(ob.fix (K':=(·≠b3)) f4 (fun b hb=>by omega));refine am ?_
  refine ap ?_;(try simp only [aE,rL,rD,rB,reduceIte,e1,iw,aH,bk4.at gu rfl,Sl.lenB ob4.ce gu rfl]);refine ao ?_
  refine WC.while (fun m fr hh=>∃ts i sv,fr=⟨ts,54,[],25,none⟩∧Fix (fun b=>b<k4.bX∧b≠b3) k4 hh∧m=o.ce.length - i∧i≤o.ce.length∧ts.get 1=some (.ptr h.bX 0)∧ts.get 2=some (.ptr h1.bX 0)∧ts.get 3=some (.ptr b3 0)∧ts.get 26=some c.ce∧ts.get 27=some (.int .i64 o.ce.length)∧ts.get 28=some (.int .i64 i)∧Has hh b3 [.str o.name,x,y,sv,.nils,z,.str o.entry]∧Buf (E g) hh 95 5 sv i ((o.ce.take i).flatMap iD)∧In (fun b=>k4.bX≤b∧b<hh.bX) sv) ?_ ⟨_,0,.nils,rfl,Fix.refl _ _,rfl,by omega,?_,?_,?_,?_,?_,?_,d4,.nil,In.nils⟩
  ·rintro m fr hh ⟨ts,i,sv,rfl,fh,rfl,hi,t1,t2,t3,t26,t27,t28,dh,bu,nu⟩
   have xh:=fh.bX;have obh:=ob4.fix fh (fun b hb=>⟨by omega,by omega⟩);refine ap ?_;(try simp only [aE,rL,rD,rB,reduceIte,t27,t28]);refine aw ?_
   by_cases hlt:i<o.ce.length
   ·refine aG (WC.skip ?_);refine az ?_;obtain ⟨p,p1,p2⟩:=obh.ce.at jU gu rfl eg rfl (by decide) rfl hlt;have p2:=p2 hh fun _ _ _ _ _=>rfl;refine ao ?_;refine ap ?_;(try simp only [aE,rL,rD,rB,reduceIte,t26,t28,p1,p2]);refine cz eg ?_;intro h5 b5 n5 f5;refine az ?_;refine cq b5 eg rfl (by decide) rfl ?_;intro h6 b6 n6 f6;have b6:Has h6 hh.bX (iD o.ce[i]):=b6;have F6:Fix (·<hh.bX) hh h6:=⟨by omega,fun c hc=>by rw [f6.ca c (by omega),f5.ca c (by omega)]⟩
    have d6:=dh.fix F6;have bu6:=bu.fix (nu.sub fun _ hx=>hx.2) F6;refine ax ?_;have l6:cx (E g) h6 132 (.ptr hh.bX 0)=some (.agg (iD o.ce[i])):=b6.agg eg rfl (show 0+5≤(iD o.ce[i]).length from aI 5);(try simp only [aE,rL,rD,rB,reduceIte,t3,pO,aH,d6.at oO rfl,l6]);refine de (cs:=iD o.ce[i]) oO rfl j5 rfl (by decide) (by decide) (fill5 (jU _)) rfl ?_;intro h7 b7 n7 f7;have d7:=d6.fix f7;have bu7:=bu6.fix (nu.sub fun b hx=>(by omega:b<h6.bX)) f7
    (try simp only [aE,rL,rD,rB,reduceIte,t3]);refine ql bu7 (nu.sub fun b hx=>(by omega:b<h7.bX)) oO rfl oO (.inl ⟨_,rfl⟩) j5 rfl (by decide) (by decide) b7.sl.len b7.sl.cells (by rfl) (jD _) (by simp;omega) ?_;intro sw h8 g8;have x8:=g8.fix.bX;have d8:=d7.fix g8.fix ⟨by omega,fun o m cc e=>by have:=nu _ _ _ _ e;omega⟩
    have w8:In (fun b=>k4.bX≤b∧b<h8.bX) sw:=fun b o n c e=>⟨by
     rcases g8.own _ _ _ _ e with q|⟨o,k,c,q⟩
     ·omega
     ·exact (nu _ _ _ _ q).1,g8.low _ _ _ _ e⟩
    (try simp only [aE,rL,rD,rB,reduceIte,t3,pO,aH]);refine cq d8 oO (by rw [g8.buf.sl.one.1];rfl) (by simp) (by rw [g8.buf.sl.one.1];simp [g8.buf.sl.one.2]) ?_;intro h9 d9 n9 f9;rw [g8.buf.sl.one.1] at d9;have d9:Has h9 b3 [.str o.name,x,y,sw,.nils,z,.str o.entry]:=d9;refine ax ?_;(try simp only [aE,rL,rD,rB,reduceIte,t28,ct])
    refine ⟨_,?_,_,i+1,sw,rfl,⟨by omega,fun b hb=>?_⟩,rfl,by omega,?_⟩
    ·omega
    ·rw [f9.ca b hb.2,g8.fix.ca b ⟨by omega,fun o m cc e=>by have:=nu _ _ _ _ e;omega⟩,f7.ca b (by omega),F6.ca b (by omega),fh.ca b hb]
    (try simp only [aE,rL,rD,rB,reduceIte,t1,t2,t3,t26,t27])
    refine ⟨aD,aD,aD,aD,aD,?_,d9,?_,w8.sub⟩
    ·rw [cy (by omega) (by omega)];rfl
    ·rw [zt iD hlt];exact g8.buf.fix (K:=(·≠b3)) (w8.sub) f9
   ·refine aF (WC.exit ?_);have:i=o.ce.length:=by omega
    subst this;rw [bv] at bu;refine az ?_;have nus:=nu;have bus:=bu;have bkh:Has hh h.bX [.str o.name,c.code,c.data,c.ce,c.ci,c.cf,.str o.entry]:=bk4.fix fh ⟨by omega,by omega⟩;refine ap ?_;(try simp only [aE,rL,rD,rB,reduceIte,t1,iv,aH,bkh.at gt rfl,Sl.lenB obh.ci gt rfl]);refine ao ?_
    refine WC.while (fun m fr hq=>∃ts i rv,fr=⟨ts,54,[],25,none⟩∧Fix (fun b=>b<hh.bX∧b≠b3) hh hq∧m=o.ci.length - i∧i≤o.ci.length∧ts.get 1=some (.ptr h.bX 0)∧ts.get 2=some (.ptr h1.bX 0)∧ts.get 3=some (.ptr b3 0)∧ts.get 40=some c.ci∧ts.get 41=some (.int .i64 o.ci.length)∧ts.get 42=some (.int .i64 i)∧Has hq b3 [.str o.name,x,y,sv,rv,z,.str o.entry]∧Buf (E g) hq 97 5 rv i ((o.ci.take i).flatMap oY)∧In (fun b=>hh.bX≤b∧b<hq.bX) rv) ?_ ⟨_,0,.nils,rfl,Fix.refl _ _,rfl,by omega,?_,?_,?_,?_,?_,?_,dh,.nil,In.nils⟩
    ·rintro m fr hq ⟨ts,i,rv,rfl,fq,rfl,hi,t1,t2,t3,t40,t41,t42,dq,bu,nu⟩
     have xq:=fq.bX;have obq:=obh.fix fq (fun b hb=>⟨by omega,by omega⟩);refine ap ?_;(try simp only [aE,rL,rD,rB,reduceIte,t41,t42]);refine aw ?_
     by_cases hlt:i<o.ci.length
     ·refine aG (WC.skip ?_);refine az ?_;obtain ⟨p,p1,p2⟩:=obq.ci.at jh gt rfl ii rfl (by decide) rfl hlt;have p2:=p2 hq fun _ _ _ _ _=>rfl;refine ao ?_;refine ap ?_;(try simp only [aE,rL,rD,rB,reduceIte,t40,t42,p1,p2]);refine cz ii ?_;intro h5 b5 n5 f5;refine az ?_;refine cq b5 ii rfl (by decide) rfl ?_;intro h6 b6 n6 f6;have b6:Has h6 hq.bX (oY o.ci[i]):=b6;have F6:Fix (·<hq.bX) hq h6:=⟨by omega,fun c hc=>by rw [f6.ca c (by omega),f5.ca c (by omega)]⟩
      have d6:=dq.fix F6;have bu6:=bu.fix (nu.sub fun _ hx=>hx.2) F6;refine ax ?_;have l6:cx (E g) h6 127 (.ptr hq.bX 0)=some (.agg (oY o.ci[i])):=b6.agg ii rfl (show 0+5≤(oY o.ci[i]).length from aI 5);(try simp only [aE,rL,rD,rB,reduceIte,t3,qL,aH,d6.at mF rfl,l6]);refine de (cs:=oY o.ci[i]) mF rfl qd rfl (by decide) (by decide) (fill5 (jh _)) rfl ?_;intro h7 b7 n7 f7;have d7:=d6.fix f7;have bu7:=bu6.fix (nu.sub fun b hx=>(by omega:b<h6.bX)) f7
      (try simp only [aE,rL,rD,rB,reduceIte,t3]);refine ql bu7 (nu.sub fun b hx=>(by omega:b<h7.bX)) mF rfl mF (.inl ⟨_,rfl⟩) qd rfl (by decide) (by decide) b7.sl.len b7.sl.cells (by rfl) (oX _) (by simp;omega) ?_;intro sw h8 g8;have x8:=g8.fix.bX;have d8:=d7.fix g8.fix ⟨by omega,fun o m cc e=>by have:=nu _ _ _ _ e;omega⟩
      have w8:In (fun b=>hh.bX≤b∧b<h8.bX) sw:=fun b o n c e=>⟨by
       rcases g8.own _ _ _ _ e with q|⟨o,k,c,q⟩
       ·omega
       ·exact (nu _ _ _ _ q).1,g8.low _ _ _ _ e⟩
      (try simp only [aE,rL,rD,rB,reduceIte,t3,qL,aH]);refine cq d8 mF (by rw [g8.buf.sl.one.1];rfl) (by simp) (by rw [g8.buf.sl.one.1];simp [g8.buf.sl.one.2]) ?_;intro h9 d9 n9 f9;rw [g8.buf.sl.one.1] at d9;have d9:Has h9 b3 [.str o.name,x,y,sv,sw,z,.str o.entry]:=d9;refine ax ?_;(try simp only [aE,rL,rD,rB,reduceIte,t42,ct])
      refine ⟨_,?_,_,i+1,sw,rfl,⟨by omega,fun b hb=>?_⟩,rfl,by omega,?_⟩
      ·omega
      ·rw [f9.ca b hb.2,g8.fix.ca b ⟨by omega,fun o m cc e=>by have:=nu _ _ _ _ e;omega⟩,f7.ca b (by omega),F6.ca b (by omega),fq.ca b hb]
      (try simp only [aE,rL,rD,rB,reduceIte,t1,t2,t3,t40,t41])
      refine ⟨aD,aD,aD,aD,aD,?_,d9,?_,w8.sub⟩
      ·rw [cy (by omega) (by omega)];rfl
      ·rw [zt oY hlt];exact g8.buf.fix (K:=(·≠b3)) (w8.sub) f9
     ·refine aF (WC.exit ?_);have:i=o.ci.length:=by omega
      subst this;rw [bv] at bu;refine az ?_;have Fq:Fix (fun b=>b<k.bX∧b≠b3) k hq:=⟨by omega,fun b hb=>by rw [fq.ca b ⟨by omega,hb.2⟩,fh.ca b ⟨by omega,hb.2⟩,f4.ca b hb.2]⟩;have lz:cx (E g) hq 77 (.ptr b3 0)=some (.agg [.str o.name,x,y,sv,rv,z,.str o.entry]):=dq.agg iq rfl (aI 7);have d2q:=d2.fix Fq ⟨by omega,by omega⟩;refine ap ?_;(try simp only [aE,rL,rD,rB,reduceIte,t2,t3,lz]);refine cq d2q iq rfl (aI 7) (by simp only [V.cells,List.all_cons,List.all_nil,x1.sl.one.2,y1.sl.one.2,z1.sl.one.2,bus.sl.one.2,bu.sl.one.2,Bool.and_true];rfl) ?_
      intro hr dr nr fr';have dr:Has hr h1.bX [.str o.name,x,y,sv,rv,z,.str o.entry]:=dr;have lr:cx (E g) hr 77 (.ptr h1.bX 0)=some (.agg [.str o.name,x,y,sv,rv,z,.str o.entry]):=dr.agg iq rfl (aI 7);refine az ?_;refine WC.ret ?_;(try simp only [aE,rL,rD,rB,reduceIte,t2,lr]);have FF:Fix (fun b=>b≠h1.bX) hq hr:=fr'
      refine ⟨⟨x,y,sv,rv,z⟩,rfl,?_,?_⟩
      ·have ff (K:Nat→Prop) (hK:∀b,K b→h2.bX≤b∧b<k.bX∧b≠b3):Fix K k hr:=⟨by omega,fun b hb=>by
        have:=hK b hb
        rw [FF.ca b (by omega),Fq.ca b ⟨by omega,by omega⟩]⟩
       have q1:=x1.fix nx (ff _ fun _ h=>h);have q2:=y1.fix ny (ff _ fun _ h=>h);have q3:=z1.fix nz (ff _ fun _ h=>h);have q4:=(bus.fix (nus.sub fun b hb=>(⟨by omega,by omega⟩:b<hh.bX∧b≠b3)) fq).fix (nus.sub fun b hb=>(by omega:b≠h1.bX)) FF;have q5:=bu.fix (nu.sub fun b hb=>(by omega:b≠h1.bX)) FF;exact ⟨by simpa using q1.sl,by simpa using q2.sl,q4.sl,q5.sl,by simpa using q3.sl,nx.sub,ny.sub,nus.sub,nu.sub,nz.sub⟩
      ·exact ⟨by omega,fun b hb=>by rw [fr'.ca b (by omega),Fq.ca b ⟨by omega,by omega⟩,ff.ca b (by omega),f2.ca b (by omega),f1.ca b hb]⟩
    all_goals (try simp only [aE,rL,rD,rB,reduceIte,t1,t2,t3])
    all_goals (first|trivial|rfl|simp)
  all_goals (try simp only [aE,rL,rD,rB,reduceIte,e1,e2,w1])
  all_goals (first|trivial|rfl|simp)
structure DI {α:Type} (g:T (List V)) (hm:H) (n0 N rb ob:Nat) (cells:V→List V) (e sz:Nat) (fl:List α→List V) (s:RdS×List α) (h:H) (sv:V):Prop where
 rd:Rd g h (·<n0) rb s.1
 co:Has h ob (cells sv)
 bu:Buf (E g) h e sz sv s.2.length (fl s.2)
 nw:In (fun b=>hm.bX≤b∧b<h.bX) sv
 fx:Fix (fun b=>b<hm.bX∧b≠rb∧b≠ob) hm h
 xs:s.1.xs.length≤N
 ln:s.2.length≤N+1
 sm:s.1.bad=false→s.2.length+s.1.xs.length≤N
theorem DI.bad {α:Type} {hm:H} {n0 N rb ob:Nat} {cells:V→List V} {e sz:Nat} {fl:List α→List V} {s:RdS×List α} {h:H} (i:∃sv,DI g hm n0 N rb ob cells e sz fl s h sv):∃sl,Has h rb [sl,.bool s.1.bad]:=by
 obtain ⟨sv,i⟩:=i;obtain ⟨bs,a,_⟩:=i.rd;exact ⟨bs,a⟩
end Go.Proofs.OP
namespace Go.Proofs.OP
open Go Go.Ev
open Go.Proofs
open Nat renaming reduceLT → rL, reduceEqDiff → rD, reduceBEq → rB
theorem ze {s:List UInt8} (h:eR s=0):s.length≤64:=by
 unfold eR at h
 split at h
 ·omega
 ·split at h<;>omega
end Go.Proofs.OP
namespace Go.Proofs.OP
open Go Go.Ev
open Go.Proofs
open Nat renaming reduceLT → rL, reduceEqDiff → rD, reduceBEq → rB
variable {g : T (List V)}
theorem Wr.sub' {h:H} {S S':Nat→Prop} {wb:Nat} {xs:List UInt8} (w:Wr g h S wb xs) (hs:∀b,b<h.bX→b≠wb→S b→S' b):Wr g h S' wb xs:=by
 obtain ⟨s,a1,a2,a3⟩:=w;exact ⟨s,a1,a2,a3.sub fun b hb=>⟨hs b hb.2.2 hb.2.1 hb.1,hb.2.1,hb.2.2⟩⟩
theorem dA (s:List UInt8):(iz [s]).length=8+s.length:=by simp [iz,dw]
theorem gQ (k:Nat):(sS k).length=4:=by match k with|0=>rfl|_+1=>rfl
theorem lm:∀(L:List (V×List UInt8)),qS L=iz (L.map (·.2))
 | []=>rfl
 | p::r=>by
  have:=lm r;simp only [qS,iz,bM,bI] at *;rw [this]
def symB (s:SymD):List UInt8:=iz [s.name]++fT [s.sec,s.off,bitsI s.cn s.cm]
def relB (r:RelD):List UInt8:=fT [r.sec,r.off,r.kind]++iz [r.sym]++fT [r.add]
theorem pM {α:Type} (f:α→List UInt8) {L:List α} {i:Nat} (hi:i<L.length):(L.take (i+1)).flatMap f=(L.take i).flatMap f++f L[i]:=by
 rw [bW hi,List.flatMap_append,bM,List.flatMap_nil,List.append_nil]
theorem jv {α:Type} {f:α→List UInt8} {B:Nat}:∀{L:List α},(∀x∈L,(f x).length≤B)→(L.flatMap f).length≤B * L.length
 | [],_=>by simp
 | x::r,h=>by
  have ih:=jv (L:=r) fun q hq=>h q (aM _ hq);have h0:=h x (aT ..);simp only [bM,aQ,aO,Nat.mul_succ] at *;omega
theorem Ji {v w z:V} (hv:v.cells=[v]) (hw:w.cells=[w]):cW (fun k=>some (k * 1,1)) (j8 [z] 2) [(0,v),(1,w)]=some [v,w]:=by
 simp [cW,j8,hv,hw,se];rfl
theorem Dy {v w u z:V} (hv:v.cells=[v]) (hw:w.cells=[w]) (hu:u.cells=[u]):cW (fun k=>some (k * 1,1)) (j8 [z] 3) [(0,v),(1,w),(2,u)]=some [v,w,u]:=by
 simp [cW,j8,hv,hw,hu,se];rfl
theorem pJ {h1:H} {n0 m wb q n:Nat} {c:Cp} (h1':m<h1.bX) (h2:wb<m):In (fun b=>b<h1.bX∧b≠wb∧(b<n0∨m≤b∨b=q)) (.slice m 0 n c):=fun b o n c e=>by
 injection e with e;subst e;exact ⟨h1',by omega,.inr (.inl (aI _))⟩
theorem JP.keep {h h1 h2:H} {K:Nat→Prop} {v:V} {xs:List UInt8} (a:JP g h h1 v xs) (f:Fix K h1 h2) (hK:∀b,h.bX≤b→b<h1.bX→K b):JP g h h2 v xs :=
 ⟨Sl.fix a.1 (a.2.sub fun b hb=>hK b hb.1 hb.2) f,a.2.sub fun b hb=>⟨hb.1,by have:=f.bX;omega⟩⟩
end Go.Proofs.OP
namespace Go.Proofs.OP
open Go Go.Ev
def Hx (n:Int):Prop:=-9223372036854775808≤n∧n≤9223372036854775807
def rest6 (o:ObjD):List UInt8:=iz [o.entry]++[]
def rest5 (o:ObjD):List UInt8:=fT [(o.cf.length:Int)]++((o.cf.flatMap fun s=>iz [s])++rest6 o)
def rest4 (o:ObjD):List UInt8:=fT [(o.ci.length:Int)]++(o.ci.flatMap relB++rest5 o)
def rest3 (o:ObjD):List UInt8:=fT [(o.ce.length:Int)]++(o.ce.flatMap symB++rest4 o)
def rest2 (o:ObjD):List UInt8:=iz [o.data]++rest3 o
def rest1 (o:ObjD):List UInt8:=iz [o.code]++rest2 o
def body (o:ObjD):List UInt8:=iz [o.name]++rest1 o
end Go.Proofs.OP
namespace Go.Proofs.OP
open Go Go.Ev
open Go.Proofs
open Nat renaming reduceLT → rL, reduceEqDiff → rD, reduceBEq → rB
variable {g : T (List V)}
instance:DecidableEq SymD:=fun a b=>if h:a.name=b.name∧a.sec=b.sec∧a.off=b.off∧a.cn=b.cn∧a.cm=b.cm then isTrue (by cases a;cases b;simp at h;simp [h]) else isFalse (by rintro rfl;simp at h)
instance:DecidableEq RelD:=fun a b=>if h:a.sec=b.sec∧a.off=b.off∧a.kind=b.kind∧a.sym=b.sym∧a.add=b.add then isTrue (by cases a;cases b;simp at h;simp [h]) else isFalse (by rintro rfl;simp at h)
theorem I3 {h:H} {s t:V} {L M:List (List UInt8)} (hs:Ss g h s L) (ht:Ss g h t M) (hL:L.length<2^40) (hM:M.length<2^40):WF (E g) 51 [s,t] h fun v h'=>v=.bool (decide (L=M))∧h'=h:=by
 refine WF.enter fn51 rfl ?_;refine au ?_;refine ap ?_;(try simp only [aE,rL,rD,rB,reduceIte,Sl.lenB hs cD rfl,Sl.lenB ht cD rfl]);refine aw ?_
 by_cases hl:L.length=M.length
 ·refine WC.cond (b:=false) (by (try simp only [aE,rL,rD,rB,reduceIte]);simp [hl]) (WC.skip ?_);refine ax ?_;(try simp only [aE,rL,rD,rB,reduceIte,Sl.lenB hs cD rfl]);refine ao ?_
  refine WC.while (fun m fr hh=>∃ts i,fr=⟨ts,26,[],51,none⟩∧hh=h∧m=L.length - i∧i≤L.length∧ts.get 0=some s∧ts.get 1=some t∧ts.get 12=some (.int .i64 L.length)∧ts.get 13=some (.int .i64 i)∧L.take i=M.take i) ?_ ⟨_,0,rfl,rfl,rfl,by omega,?_,?_,?_,?_,rfl⟩
  ·rintro m fr hh ⟨ts,i,rfl,rfl,rfl,hi,t0,t1,t12,t13,he⟩
   refine ap ?_;(try simp only [aE,rL,rD,rB,reduceIte,t12,t13]);refine aw ?_
   by_cases hlt:i<L.length
   ·refine aG (WC.skip ?_);refine az ?_;obtain ⟨p,p1,p2⟩:=hs.at cD rfl ty9 rfl rfl hlt;have p2:=p2 hh fun _ _ _ _ _=>rfl;have hlt':i<M.length:=by omega
    obtain ⟨q,q1,q2⟩:=ht.at cD rfl ty9 rfl rfl hlt';have q2:=q2 hh fun _ _ _ _ _=>rfl;refine ao ?_;refine ap ?_;(try simp only [aE,rL,rD,rB,reduceIte,t13])
    ((repeat refine WC.seq ?_);refine WC.draw (plans:=Iy) (by kernel_rfl) ?_;simp only [Iy,ak])
    (try simp (maxSteps:=2000000) only [aE,rL,rD,rB,reduceIte,af,Chk,t0,t1,p1,p2,q1,q2,eT]);refine aw ?_
    by_cases hc:L[i]=M[i]
    ·refine WC.cond (b:=false) (by (try simp only [aE,rL,rD,rB,reduceIte]);simp [hc]) (WC.skip ?_);refine ax ?_;(try simp only [aE,rL,rD,rB,reduceIte,t13,ct])
     refine ⟨_,?_,_,i+1,rfl,by trivial,rfl,by omega,?_⟩
     ·omega
     (try simp only [aE,rL,rD,rB,reduceIte,t0,t1,t12])
     refine ⟨aD,aD,aD,?_,?_⟩
     ·rw [cy (by omega) (by omega)];rfl
     ·rw [bW hlt,bW hlt',he,hc]
    ·refine WC.cond (b:=true) (by (try simp only [aE,rL,rD,rB,reduceIte]);simp [hc]) ?_;refine au ?_;refine WC.ret ?_;refine az ?_;refine ⟨?_,by trivial⟩;rw [aK (by rintro rfl;exact hc rfl)]
   ·refine aF (WC.exit ?_);have:i=L.length:=by omega
    subst this;refine ay ?_;refine WC.ret ?_;refine az ?_;refine ⟨?_,by trivial⟩;rw [bv,hl,bv] at he;rw [aJ he]
  all_goals (try simp only [aE,rL,rD,rB,reduceIte])
  all_goals (first|trivial|rfl|simp)
 ·refine WC.cond (b:=true) (by (try simp only [aE,rL,rD,rB,reduceIte]);simp;omega) ?_;refine au ?_;refine WC.ret ?_;refine az ?_;refine ⟨?_,by trivial⟩;rw [aK (by rintro rfl;exact hl rfl)]
theorem Fd {n:Nat} {a b:List UInt8}:eqT (E g) (n+1) 9 (.str a) (.str b)=some (decide (a=b)):=by
 have:(a==b)=decide (a=b):=by by_cases h:a=b<;>simp [h]
 simp only [eqT,ty9,mP,this]
theorem eqT_i3 {n:Nat} {a b:Int}:eqT (E g) (n+1) 3 (.int .i64 a) (.int .i64 b)=some (decide (a=b)):=by
 simp only [eqT,ty3,mP,if_true]
theorem Jl {n:Nat} {a b:Int}:eqT (E g) (n+1) 2 (.int .i64 a) (.int .i64 b)=some (decide (a=b)):=by
 simp only [eqT,ty2,mP,if_true]
end Go.Proofs.OP
