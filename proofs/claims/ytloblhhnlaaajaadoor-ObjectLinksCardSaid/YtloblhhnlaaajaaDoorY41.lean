/- Walks: the reference's linker: round, insert, global, address, slot. -/
import Derived.Test.YtloblhhnlaaajaaDoorY40
set_option maxHeartbeats 8000000
set_option maxRecDepth 100000
set_option linter.unusedVariables false
set_option linter.unusedSimpArgs false
set_option linter.defProp false
namespace Go.Proofs.OP
open Go Go.Ev
open Go.Proofs
open Nat renaming reduceLT → rL, reduceEqDiff → rD, reduceBEq → rB
variable {g : T (List V)}
theorem yU {h:H} {base:Int} {x:Nat} (hb:Bas base) (hx:x<2^40):WF (E g) 117 [.int .i64 (base+x)] h fun v h'=>v=.int .i64 (base+(upN x:Nat))∧h'=h:=by
 obtain ⟨q,rfl⟩:=hb.nat;have hq:=hb.most;refine WF.enter fn117 rfl ?_;refine au ?_;refine ap ?_;(try simp only [aE,rL,rD,rB,reduceIte,ct,vL,Ay (show (16:Int)≠0 by decide)]);refine WC.ret ?_;refine az ?_;refine ⟨?_,by trivial⟩
 congr 1
 rw [cy (n:=((q * 16:Nat):Int)+x+15) (by omega) (by omega)]
 have h1:(((q * 16:Nat):Int)+x+15).tdiv 16=((q+(x+15) / 16:Nat):Int):=by
  rw [Int.tdiv_eq_ediv_of_nonneg (by omega)];omega
 rw [h1,cy (n:=((q+(x+15) / 16:Nat):Int)) (by omega) (by omega),cy (by omega) (by omega)];unfold upN;omega
def pn (k:List UInt8):List (List UInt8)→List (List UInt8)
 | []=>[k]
 | x::r=>if Op.bytesLess x k=true then x::pn k r else if x=k then x::r else k::x::r
theorem Ai {k:List UInt8}:∀{L:List (List UInt8)} {i:Nat},i≤L.length→(∀x∈L.take i,Op.bytesLess x k=true) →
  (∀h:i<L.length,Op.bytesLess L[i] k=false)→pn k L=if ∃h:i<L.length,L[i]=k then L else L.take i++(k::L.drop i)
 | [],i,hi,_,_=>by
  have:i=0:=by simpa using hi
  subst this;rw [if_neg (by rintro ⟨h,_⟩;simp at h)];rfl
 | x::r,0,_,_,hn=>by
  have hx:¬Op.bytesLess x k=true:=by rw [show Op.bytesLess x k=false from hn (by simp)];decide
  by_cases e:x=k
  ·rw [if_pos ⟨by simp,e⟩];simp only [pn,if_neg hx,if_pos e]
  ·rw [if_neg (by rintro ⟨_,q⟩;exact e q)];simp only [pn,if_neg hx,if_neg e];rfl
 | x::r,i+1,hi,hl,hn=>by
  have hx:Op.bytesLess x k=true:=hl x (by simp);have ih:=Ai (k:=k) (L:=r) (i:=i) (by simpa using hi) (fun y hy=>hl y (by simp [hy])) (fun h=>hn (by simpa using h));simp only [pn,if_pos hx,ih]
  by_cases e:∃h:i<r.length,r[i]=k
  ·obtain ⟨h,e⟩:=e;rw [if_pos ⟨h,e⟩,if_pos ⟨by simpa using h,by simpa using e⟩]
  ·rw [if_neg e,if_neg (by rintro ⟨h,q⟩;exact e ⟨by simpa using h,by simpa using q⟩)];rfl
theorem oh (k:List UInt8):∀L:List (List UInt8),(pn k L).length≤L.length+1
 | []=>by simp [pn]
 | x::r=>by
  have:=oh k r;simp only [pn]
  split
  ·simp only [aO];omega
  ·split<;>simp
theorem JE {h:H} {c:Bool} {t:Nat} {a b:List UInt8}:fJ (E g) h c .lss t (.str a) (.str b)=some (.bool (Op.bytesLess a b)):=rfl
theorem yb {h:H} {c:Bool} {a b:Bool}:fJ (E g) h c .eql 4 (.bool a) (.bool b)=some (.bool (a==b)):=by
 cases a<;>cases b<;>simp [fJ,eqV,ty4]
theorem Ss.upto {h:H} {s:V} {L:List (List UInt8)} (a:Ss g h s L) {n:Nat} (hn:n≤L.length) :
  ∃s',eL (E g) 30 s none (some (.int .i64 n)) none=some s'∧Ss g h s' (L.take n)∧(∀K,In K s→In K s'):=by
 obtain ⟨s',h1,h2,h3,_⟩:=Sl.sub a cD rfl (cL ty9) (lo:=none) (hi:=some n) (l:=0) (r:=n) rfl rfl (Nat.zero_le _) hn;refine ⟨s',h1,?_,h3⟩;have e:(L.take n).length=n:=by simp;omega
 show Sl (E g) h 1 s' (L.take n).length _;rw [e,List.map_take];simpa using h2
theorem Ss.from {h:H} {s:V} {L:List (List UInt8)} (a:Ss g h s L) {n:Nat} (hn:n≤L.length) :
  ∃s',eL (E g) 30 s (some (.int .i64 n)) none none=some s'∧Ss g h s' (L.drop n)∧(∀K,In K s→In K s'):=by
 obtain ⟨s',h1,h2,h3,_⟩:=Sl.sub a cD rfl (cL ty9) (lo:=some n) (hi:=none) (l:=n) (r:=L.length) rfl rfl hn (aI _);refine ⟨s',h1,?_,h3⟩;have e:(L.drop n).length=L.length - n:=by simp
 show Sl (E g) h 1 s' (L.drop n).length _;rw [e,List.map_drop]
 have e2:((L.map V.str).drop (n * 1)).take ((L.length - n) * 1)=(L.map V.str).drop n:=by
  rw [bL,bL,bT (by simp)]
 rw [e2] at h2;exact h2
theorem zm {h:H} {P:Nat→Prop} {s:V} {k:List UInt8} {L:List (List UInt8)} (a:Ss g h s L) (hs:In P s) (hP:∀b,P b→b<h.bX) (hM:L.length≤2^30) :
  WF (E g) 49 [s,.str k] h fun v h'=>Ss g h' v (pn k L)∧In (fun b=>P b∨(h.bX≤b∧b<h'.bX)) v∧cH h h':=by
 have hs':In (·<h.bX) s:=hs.sub hP;refine WF.enter fn49 rfl ?_;refine au ?_;refine au ?_;refine ao ?_
 refine WC.while (fun m fr hh=>∃ts i,fr=⟨ts,45,[],49,none⟩∧hh=h∧m=L.length - i∧i≤L.length∧ts.get 0=some s∧ts.get 1=some (.str k)∧ts.get 5=some (.int .i64 i)∧∀x∈L.take i,Op.bytesLess x k=true) ?_ ⟨_,0,rfl,rfl,rfl,by omega,?_,?_,?_,by simp⟩
 ·rintro m fr hh ⟨ts,i,rfl,rfl,rfl,hi,t0,t1,t5,hal⟩
  refine ap ?_
  by_cases hlt:i<L.length
  ·obtain ⟨p,p1,p2⟩:=a.at cD rfl ty9 rfl rfl hlt;have p2:=p2 hh fun _ _ _ _ _=>rfl;have hd:=aJ (show (i:Int)<(L.length:Int) by omega);(try simp only [aE,rL,rD,rB,reduceIte,t0,t1,t5,Sl.lenB a cD rfl,hd,p1,p2,JE]);refine aw ?_
   cases hb:Op.bytesLess L[i] k with
   | true =>
    refine WC.cond (b:=true) (by (try simp only [aE,rL,rD,rB,reduceIte,hb]);(try simp);(try omega)) (WC.skip ?_);refine az ?_;refine ao ?_;refine ap ?_;(try simp only [aE,rL,rD,rB,reduceIte,t5,ct])
    refine ⟨_,?_,_,i+1,rfl,aD,rfl,by omega,?_⟩
    ·omega
    (try simp only [aE,rL,rD,rB,reduceIte,t0,t1])
    refine ⟨aD,aD,?_,fun x hx=>?_⟩
    ·rw [cy (by omega) (by omega)];rfl
    ·rw [bW hlt,bN,aN] at hx
     rcases hx with hx|rfl
     ·exact hal x hx
     ·exact hb
   | false =>
    refine WC.cond (b:=false) (by (try simp only [aE,rL,rD,rB,reduceIte,hb]);(try simp);(try omega)) (WC.exit ?_);refine az ?_;have hins:=Ai hi hal fun _=>hb;refine ap ?_;(try simp only [aE,rL,rD,rB,reduceIte,t0,t1,t5,Sl.lenB a cD rfl,hd,p1,p2,gH]);refine aw ?_
    cases he:(L[i]==k) with
    | true =>
     have he2:L[i]=k:=eq_of_beq he;rw [if_pos ⟨hlt,he2⟩] at hins;refine WC.cond (b:=true) (by (try simp only [aE,rL,rD,rB,reduceIte,he]);(try simp);(try omega)) ?_;refine ap ?_;(try simp only [aE,rL,rD,rB,reduceIte,t0]);refine WC.ret ?_;refine az ?_;exact ⟨by rw [hins];exact a,hs.sub fun b hb=>.inl hb,Fix.refl _ _⟩
    | false =>
     have he2:¬L[i]=k:=fun e=>by rw [e] at he;simp at he
     rw [if_neg (by rintro ⟨_,q⟩;exact he2 q)] at hins;refine WC.cond (b:=false) (by (try simp only [aE,rL,rD,rB,reduceIte,he]);(try simp);(try omega)) (WC.skip ?_);refine az ?_;obtain ⟨w1,v1,u1,j1⟩:=a.upto (n:=i) hi;obtain ⟨w2,v2,u2,j2⟩:=a.from (n:=i) hi;have hw1:=j1 _ hs';have hw2:=j2 _ hs';have hl1:(L.take i).length=i:=by simp;omega
     have hl2:(L.drop i).length=L.length - i:=by simp
     ((repeat refine WC.seq ?_);refine WC.draw (plans:=Aa) (by kernel_rfl) ?_;simp only [Aa,ak])
     refine ⟨?_,?_,?_⟩
     ·(try simp (maxSteps:=2000000) only [aE,rL,rD,rB,reduceIte,af,Chk,t0,t1,t5,v1,v2]);refine jN cD rfl ty9 rfl (by decide) ?_;intro h3 z0 n3 f3;refine am ?_;refine df (m:=i) (ws:=(L.take i).map V.str) z0 cD rfl cD (.inl ⟨_,rfl⟩) ty9 rfl (by decide) (by decide) (by have:=Sl.len (Sl.fix u1 hw1 f3);rwa [hl1] at this) (by have:=Sl.cells (Sl.fix u1 hw1 f3);rwa [hl1] at this) (by rw [bO,hl1,bL]) jt (show (0+i) * 16≤140737488355328 by omega) (fun b o n k e=>by injection e with e;omega) ?_
      intro s4 h4 b4 i4 o4 f4;have x4:=f4.bX
      have g4:∀b o n c,s4=.slice b o n c→hh.bX≤b∧b<h4.bX:=fun b o n c e=>⟨by
       rcases o4 _ _ _ _ e with q|⟨_,_,_,q⟩
       ·omega
       ·injection q with q;omega,i4 b o n c e⟩
      refine am ?_;refine dU cD rfl ty9 rfl rfl rfl ?_;intro h5 bk5' n5 f5;have bk5:Sl (E g) h5 1 (.slice h4.bX 0 1 (.lit 1)) 1 [.str k]:=bk5'.sl;have b5:=b4.fix (K:=(·<h4.bX)) (fun b o n c e=>(g4 b o n c e).2) f5;have i5:∀b o n c,s4=.slice b o n c→hh.bX≤b∧b<h5.bX:=fun b o n c e=>by have:=g4 b o n c e;omega
      have F5:cH hh h5:=⟨by omega,fun b hb=>by rw [f5.ca b (by omega),f4.ca b ⟨by omega,fun o n c e=>by injection e with e;omega⟩,f3.ca b hb]⟩;refine am ?_;have e5:Sl (E g) h5 1 (.slice h4.bX 0 1 (.lit 1)) 1 [.str k]:=bk5;refine df (m:=1) (ws:=[.str k]) b5 cD rfl cD (.inl ⟨_,rfl⟩) ty9 rfl (by decide) (by decide) (Sl.len e5) (Sl.cells e5) rfl rfl (show (0+i+1) * 16≤140737488355328 by omega) (fun b o n k e=>by have:=i5 b o n k e;omega) ?_
      intro s6 h6 b6 i6 o6 f6;have x6:=f6.bX;have F6:cH hh h6:=⟨by omega,fun b hb=>by rw [f6.ca b ⟨by omega,fun o n c e=>by have:=i5 _ _ _ _ e;omega⟩,F5.ca b hb]⟩;refine am ?_;have u6:=Sl.fix u2 hw2 F6;refine df (m:=L.length - i) (ws:=(L.drop i).map V.str) b6 cD rfl cD (.inl ⟨_,rfl⟩) ty9 rfl (by decide) (by decide) (by have:=Sl.len u6;rwa [hl2] at this) (by have:=Sl.cells u6;rwa [hl2] at this) (by rw [bO,hl2,bL]) jt (show (0+i+1+(L.length - i)) * 16≤140737488355328 by omega) (fun b o n k e=>by have:=i6 b o n k e;omega) ?_
      intro s7 h7 b7 i7 o7 f7;have x7:=f7.bX;refine am ?_;refine WC.ret ?_;refine az ?_
      have g6:∀b o n c,s6=.slice b o n c→hh.bX≤b:=fun b o n c e=>by
       rcases o6 _ _ _ _ e with q|⟨_,_,_,q⟩
       ·omega
       ·have:=i5 _ _ _ _ q;omega
      refine ⟨?_,?_,⟨by omega,fun b hb=>by rw [f7.ca b ⟨by omega,fun o n c e=>by have:=g6 _ _ _ _ e;omega⟩,F6.ca b hb]⟩⟩
      ·rw [hins];have hl7:(L.take i++k::L.drop i).length=0+i+1+(L.length - i):=by simp;omega
       have:=b7.sl;show Sl (E g) h7 1 s7 (L.take i++k::L.drop i).length ((L.take i++k::L.drop i).map V.str);rw [hl7];simpa using this
      ·intro b o n c e;have h7b:=i7 b o n c e;refine .inr ⟨?_,h7b⟩
       rcases o7 _ _ _ _ e with q|⟨_,_,_,q⟩
       ·omega
       ·exact g6 _ _ _ _ q
     ·(try simp (maxSteps:=2000000) only [aE,rL,rD,rB,reduceIte,af,Chk,t0,t1,t5,v1,v2]);refine jN cD rfl ty9 rfl (by decide) ?_;intro h3 z0' n3 f3;refine am ?_;refine dU cD rfl ty9 rfl rfl rfl ?_;intro h3' bk3 n3' f3';have z0:=z0'.fix (K:=(·<h3.bX)) (fun b o n c e=>by injection e with e;omega) f3';have f33:cH hh h3':=⟨by omega,fun b hb=>by rw [f3'.ca b (by omega),f3.ca b hb]⟩;refine am ?_;refine df (m:=i) (ws:=(L.take i).map V.str) z0 cD rfl cD (.inl ⟨_,rfl⟩) ty9 rfl (by decide) (by decide) (by have:=Sl.len (Sl.fix u1 hw1 f33);rwa [hl1] at this) (by have:=Sl.cells (Sl.fix u1 hw1 f33);rwa [hl1] at this) (by rw [bO,hl1,bL]) jt (show (0+i) * 16≤140737488355328 by omega) (fun b o n k e=>by injection e with e;omega) ?_
      intro s4 h4 b4 i4 o4 f4;have x4:=f4.bX
      have g4:∀b o n c,s4=.slice b o n c→hh.bX≤b∧b<h4.bX∧b≠h3.bX:=fun b o n c e=>⟨by
       rcases o4 _ _ _ _ e with q|⟨_,_,_,q⟩
       ·omega
       ·injection q with q;omega,i4 b o n c e,by
       rcases o4 _ _ _ _ e with q|⟨_,_,_,q⟩
       ·omega
       ·injection q with q;omega⟩
      have bk4:=bk3.fix (K:=fun c=>c<h3'.bX∧∀o k cc,V.slice hh.bX 0 0 (.lit 0)≠.slice c o k cc) (fun b o n c e=>by injection e with e;exact ⟨by omega,fun o k cc e=>by injection e with e;omega⟩) f4;have bk5:Sl (E g) h4 1 (.slice h3.bX 0 1 (.lit 1)) 1 [.str k]:=bk4.sl;have b5:Buf (E g) h4 9 1 s4 (0+i) ([]++(L.take i).map V.str):=b4;have i5:∀b o n c,s4=.slice b o n c→hh.bX≤b∧b<h4.bX:=fun b o n c e=>by have:=g4 b o n c e;omega
      have F5:cH hh h4:=⟨by omega,fun b hb=>by rw [f4.ca b ⟨by omega,fun o n c e=>by injection e with e;omega⟩,f33.ca b hb]⟩;refine am ?_;have e5:Sl (E g) h4 1 (.slice h3.bX 0 1 (.lit 1)) 1 [.str k]:=bk5;refine df (m:=1) (ws:=[.str k]) b5 cD rfl cD (.inl ⟨_,rfl⟩) ty9 rfl (by decide) (by decide) (Sl.len e5) (Sl.cells e5) rfl rfl (show (0+i+1) * 16≤140737488355328 by omega) (fun b o n k e=>by have:=i5 b o n k e;omega) ?_
      intro s6 h6 b6 i6 o6 f6;have x6:=f6.bX;have F6:cH hh h6:=⟨by omega,fun b hb=>by rw [f6.ca b ⟨by omega,fun o n c e=>by have:=i5 _ _ _ _ e;omega⟩,F5.ca b hb]⟩;refine am ?_;have u6:=Sl.fix u2 hw2 F6;refine df (m:=L.length - i) (ws:=(L.drop i).map V.str) b6 cD rfl cD (.inl ⟨_,rfl⟩) ty9 rfl (by decide) (by decide) (by have:=Sl.len u6;rwa [hl2] at this) (by have:=Sl.cells u6;rwa [hl2] at this) (by rw [bO,hl2,bL]) jt (show (0+i+1+(L.length - i)) * 16≤140737488355328 by omega) (fun b o n k e=>by have:=i6 b o n k e;omega) ?_
      intro s7 h7 b7 i7 o7 f7;have x7:=f7.bX;refine am ?_;refine WC.ret ?_;refine az ?_
      have g6:∀b o n c,s6=.slice b o n c→hh.bX≤b:=fun b o n c e=>by
       rcases o6 _ _ _ _ e with q|⟨_,_,_,q⟩
       ·omega
       ·have:=i5 _ _ _ _ q;omega
      refine ⟨?_,?_,⟨by omega,fun b hb=>by rw [f7.ca b ⟨by omega,fun o n c e=>by have:=g6 _ _ _ _ e;omega⟩,F6.ca b hb]⟩⟩
      ·rw [hins];have hl7:(L.take i++k::L.drop i).length=0+i+1+(L.length - i):=by simp;omega
       have:=b7.sl;show Sl (E g) h7 1 s7 (L.take i++k::L.drop i).length ((L.take i++k::L.drop i).map V.str);rw [hl7];simpa using this
      ·intro b o n c e;have h7b:=i7 b o n c e;refine .inr ⟨?_,h7b⟩
       rcases o7 _ _ _ _ e with q|⟨_,_,_,q⟩
       ·omega
       ·exact g6 _ _ _ _ q
     ·(try simp (maxSteps:=2000000) only [aE,rL,rD,rB,reduceIte,af,Chk,t0,t1,t5,v1,v2]);refine dU cD rfl ty9 rfl rfl rfl ?_;intro h3 bk3' n3 f3;refine am ?_;refine jN cD rfl ty9 rfl (by decide) ?_;intro h3' z0 n3' f3';have bk3:=bk3'.fix (K:=(·<h3.bX)) (fun b o n c e=>by injection e with e;omega) f3';have f33:cH hh h3':=⟨by omega,fun b hb=>by rw [f3'.ca b (by omega),f3.ca b hb]⟩;refine am ?_;refine df (m:=i) (ws:=(L.take i).map V.str) z0 cD rfl cD (.inl ⟨_,rfl⟩) ty9 rfl (by decide) (by decide) (by have:=Sl.len (Sl.fix u1 hw1 f33);rwa [hl1] at this) (by have:=Sl.cells (Sl.fix u1 hw1 f33);rwa [hl1] at this) (by rw [bO,hl1,bL]) jt (show (0+i) * 16≤140737488355328 by omega) (fun b o n k e=>by injection e with e;omega) ?_
      intro s4 h4 b4 i4 o4 f4;have x4:=f4.bX
      have g4:∀b o n c,s4=.slice b o n c→hh.bX≤b∧b<h4.bX∧b≠hh.bX:=fun b o n c e=>⟨by
       rcases o4 _ _ _ _ e with q|⟨_,_,_,q⟩
       ·omega
       ·injection q with q;omega,i4 b o n c e,by
       rcases o4 _ _ _ _ e with q|⟨_,_,_,q⟩
       ·omega
       ·injection q with q;omega⟩
      have bk4:=bk3.fix (K:=fun c=>c<h3'.bX∧∀o k cc,V.slice h3.bX 0 0 (.lit 0)≠.slice c o k cc) (fun b o n c e=>by injection e with e;exact ⟨by omega,fun o k cc e=>by injection e with e;omega⟩) f4;have bk5:Sl (E g) h4 1 (.slice hh.bX 0 1 (.lit 1)) 1 [.str k]:=bk4.sl;have b5:Buf (E g) h4 9 1 s4 (0+i) ([]++(L.take i).map V.str):=b4;have i5:∀b o n c,s4=.slice b o n c→hh.bX≤b∧b<h4.bX:=fun b o n c e=>by have:=g4 b o n c e;omega
      have F5:cH hh h4:=⟨by omega,fun b hb=>by rw [f4.ca b ⟨by omega,fun o n c e=>by injection e with e;omega⟩,f33.ca b hb]⟩;refine am ?_;have e5:Sl (E g) h4 1 (.slice hh.bX 0 1 (.lit 1)) 1 [.str k]:=bk5;refine df (m:=1) (ws:=[.str k]) b5 cD rfl cD (.inl ⟨_,rfl⟩) ty9 rfl (by decide) (by decide) (Sl.len e5) (Sl.cells e5) rfl rfl (show (0+i+1) * 16≤140737488355328 by omega) (fun b o n k e=>by have:=i5 b o n k e;omega) ?_
      intro s6 h6 b6 i6 o6 f6;have x6:=f6.bX;have F6:cH hh h6:=⟨by omega,fun b hb=>by rw [f6.ca b ⟨by omega,fun o n c e=>by have:=i5 _ _ _ _ e;omega⟩,F5.ca b hb]⟩;refine am ?_;have u6:=Sl.fix u2 hw2 F6;refine df (m:=L.length - i) (ws:=(L.drop i).map V.str) b6 cD rfl cD (.inl ⟨_,rfl⟩) ty9 rfl (by decide) (by decide) (by have:=Sl.len u6;rwa [hl2] at this) (by have:=Sl.cells u6;rwa [hl2] at this) (by rw [bO,hl2,bL]) jt (show (0+i+1+(L.length - i)) * 16≤140737488355328 by omega) (fun b o n k e=>by have:=i6 b o n k e;omega) ?_
      intro s7 h7 b7 i7 o7 f7;have x7:=f7.bX;refine am ?_;refine WC.ret ?_;refine az ?_
      have g6:∀b o n c,s6=.slice b o n c→hh.bX≤b:=fun b o n c e=>by
       rcases o6 _ _ _ _ e with q|⟨_,_,_,q⟩
       ·omega
       ·have:=i5 _ _ _ _ q;omega
      refine ⟨?_,?_,⟨by omega,fun b hb=>by rw [f7.ca b ⟨by omega,fun o n c e=>by have:=g6 _ _ _ _ e;omega⟩,F6.ca b hb]⟩⟩
      ·rw [hins];have hl7:(L.take i++k::L.drop i).length=0+i+1+(L.length - i):=by simp;omega
       have:=b7.sl;show Sl (E g) h7 1 s7 (L.take i++k::L.drop i).length ((L.take i++k::L.drop i).map V.str);rw [hl7];simpa using this
      ·intro b o n c e;have h7b:=i7 b o n c e;refine .inr ⟨?_,h7b⟩
       rcases o7 _ _ _ _ e with q|⟨_,_,_,q⟩
       ·omega
       ·exact g6 _ _ _ _ q
  ·have hd:=aK (show ¬(i:Int)<(L.length:Int) by omega);(try simp only [aE,rL,rD,rB,reduceIte,t0,t1,t5,Sl.lenB a cD rfl,hd]);refine aw ?_;refine aF (WC.exit ?_);refine az ?_;have hins:=Ai hi hal fun h=>absurd h hlt;rw [if_neg (by rintro ⟨q,_⟩;exact hlt q)] at hins;refine ap ?_;(try simp only [aE,rL,rD,rB,reduceIte,t0,t1,t5,Sl.lenB a cD rfl,hd]);refine aw ?_;refine aF (WC.skip ?_);refine az ?_;obtain ⟨w1,v1,u1,j1⟩:=a.upto (n:=i) hi
   obtain ⟨w2,v2,u2,j2⟩:=a.from (n:=i) hi;have hw1:=j1 _ hs';have hw2:=j2 _ hs';have hl1:(L.take i).length=i:=by simp;omega
   have hl2:(L.drop i).length=L.length - i:=by simp
   ((repeat refine WC.seq ?_);refine WC.draw (plans:=Aa) (by kernel_rfl) ?_;simp only [Aa,ak])
   refine ⟨?_,?_,?_⟩
   ·(try simp (maxSteps:=2000000) only [aE,rL,rD,rB,reduceIte,af,Chk,t0,t1,t5,v1,v2]);refine jN cD rfl ty9 rfl (by decide) ?_;intro h3 z0 n3 f3;refine am ?_;refine df (m:=i) (ws:=(L.take i).map V.str) z0 cD rfl cD (.inl ⟨_,rfl⟩) ty9 rfl (by decide) (by decide) (by have:=Sl.len (Sl.fix u1 hw1 f3);rwa [hl1] at this) (by have:=Sl.cells (Sl.fix u1 hw1 f3);rwa [hl1] at this) (by rw [bO,hl1,bL]) jt (show (0+i) * 16≤140737488355328 by omega) (fun b o n k e=>by injection e with e;omega) ?_
    intro s4 h4 b4 i4 o4 f4;have x4:=f4.bX
    have g4:∀b o n c,s4=.slice b o n c→hh.bX≤b∧b<h4.bX:=fun b o n c e=>⟨by
     rcases o4 _ _ _ _ e with q|⟨_,_,_,q⟩
     ·omega
     ·injection q with q;omega,i4 b o n c e⟩
    refine am ?_;refine dU cD rfl ty9 rfl rfl rfl ?_;intro h5 bk5' n5 f5;have bk5:Sl (E g) h5 1 (.slice h4.bX 0 1 (.lit 1)) 1 [.str k]:=bk5'.sl;have b5:=b4.fix (K:=(·<h4.bX)) (fun b o n c e=>(g4 b o n c e).2) f5;have i5:∀b o n c,s4=.slice b o n c→hh.bX≤b∧b<h5.bX:=fun b o n c e=>by have:=g4 b o n c e;omega
    have F5:cH hh h5:=⟨by omega,fun b hb=>by rw [f5.ca b (by omega),f4.ca b ⟨by omega,fun o n c e=>by injection e with e;omega⟩,f3.ca b hb]⟩;refine am ?_;have e5:Sl (E g) h5 1 (.slice h4.bX 0 1 (.lit 1)) 1 [.str k]:=bk5;refine df (m:=1) (ws:=[.str k]) b5 cD rfl cD (.inl ⟨_,rfl⟩) ty9 rfl (by decide) (by decide) (Sl.len e5) (Sl.cells e5) rfl rfl (show (0+i+1) * 16≤140737488355328 by omega) (fun b o n k e=>by have:=i5 b o n k e;omega) ?_
    intro s6 h6 b6 i6 o6 f6;have x6:=f6.bX;have F6:cH hh h6:=⟨by omega,fun b hb=>by rw [f6.ca b ⟨by omega,fun o n c e=>by have:=i5 _ _ _ _ e;omega⟩,F5.ca b hb]⟩;refine am ?_;have u6:=Sl.fix u2 hw2 F6;refine df (m:=L.length - i) (ws:=(L.drop i).map V.str) b6 cD rfl cD (.inl ⟨_,rfl⟩) ty9 rfl (by decide) (by decide) (by have:=Sl.len u6;rwa [hl2] at this) (by have:=Sl.cells u6;rwa [hl2] at this) (by rw [bO,hl2,bL]) jt (show (0+i+1+(L.length - i)) * 16≤140737488355328 by omega) (fun b o n k e=>by have:=i6 b o n k e;omega) ?_
    intro s7 h7 b7 i7 o7 f7;have x7:=f7.bX;refine am ?_;refine WC.ret ?_;refine az ?_
    have g6:∀b o n c,s6=.slice b o n c→hh.bX≤b:=fun b o n c e=>by
     rcases o6 _ _ _ _ e with q|⟨_,_,_,q⟩
     ·omega
     ·have:=i5 _ _ _ _ q;omega
    refine ⟨?_,?_,⟨by omega,fun b hb=>by rw [f7.ca b ⟨by omega,fun o n c e=>by have:=g6 _ _ _ _ e;omega⟩,F6.ca b hb]⟩⟩
    ·rw [hins];have hl7:(L.take i++k::L.drop i).length=0+i+1+(L.length - i):=by simp;omega
     have:=b7.sl;show Sl (E g) h7 1 s7 (L.take i++k::L.drop i).length ((L.take i++k::L.drop i).map V.str);rw [hl7];simpa using this
    ·intro b o n c e;have h7b:=i7 b o n c e;refine .inr ⟨?_,h7b⟩
     rcases o7 _ _ _ _ e with q|⟨_,_,_,q⟩
     ·omega
     ·exact g6 _ _ _ _ q
   ·(try simp (maxSteps:=2000000) only [aE,rL,rD,rB,reduceIte,af,Chk,t0,t1,t5,v1,v2]);refine jN cD rfl ty9 rfl (by decide) ?_;intro h3 z0' n3 f3;refine am ?_;refine dU cD rfl ty9 rfl rfl rfl ?_;intro h3' bk3 n3' f3';have z0:=z0'.fix (K:=(·<h3.bX)) (fun b o n c e=>by injection e with e;omega) f3';have f33:cH hh h3':=⟨by omega,fun b hb=>by rw [f3'.ca b (by omega),f3.ca b hb]⟩;refine am ?_;refine df (m:=i) (ws:=(L.take i).map V.str) z0 cD rfl cD (.inl ⟨_,rfl⟩) ty9 rfl (by decide) (by decide) (by have:=Sl.len (Sl.fix u1 hw1 f33);rwa [hl1] at this) (by have:=Sl.cells (Sl.fix u1 hw1 f33);rwa [hl1] at this) (by rw [bO,hl1,bL]) jt (show (0+i) * 16≤140737488355328 by omega) (fun b o n k e=>by injection e with e;omega) ?_
    intro s4 h4 b4 i4 o4 f4;have x4:=f4.bX
    have g4:∀b o n c,s4=.slice b o n c→hh.bX≤b∧b<h4.bX∧b≠h3.bX:=fun b o n c e=>⟨by
     rcases o4 _ _ _ _ e with q|⟨_,_,_,q⟩
     ·omega
     ·injection q with q;omega,i4 b o n c e,by
     rcases o4 _ _ _ _ e with q|⟨_,_,_,q⟩
     ·omega
     ·injection q with q;omega⟩
    have bk4:=bk3.fix (K:=fun c=>c<h3'.bX∧∀o k cc,V.slice hh.bX 0 0 (.lit 0)≠.slice c o k cc) (fun b o n c e=>by injection e with e;exact ⟨by omega,fun o k cc e=>by injection e with e;omega⟩) f4;have bk5:Sl (E g) h4 1 (.slice h3.bX 0 1 (.lit 1)) 1 [.str k]:=bk4.sl;have b5:Buf (E g) h4 9 1 s4 (0+i) ([]++(L.take i).map V.str):=b4;have i5:∀b o n c,s4=.slice b o n c→hh.bX≤b∧b<h4.bX:=fun b o n c e=>by have:=g4 b o n c e;omega
    have F5:cH hh h4:=⟨by omega,fun b hb=>by rw [f4.ca b ⟨by omega,fun o n c e=>by injection e with e;omega⟩,f33.ca b hb]⟩;refine am ?_;have e5:Sl (E g) h4 1 (.slice h3.bX 0 1 (.lit 1)) 1 [.str k]:=bk5;refine df (m:=1) (ws:=[.str k]) b5 cD rfl cD (.inl ⟨_,rfl⟩) ty9 rfl (by decide) (by decide) (Sl.len e5) (Sl.cells e5) rfl rfl (show (0+i+1) * 16≤140737488355328 by omega) (fun b o n k e=>by have:=i5 b o n k e;omega) ?_
    intro s6 h6 b6 i6 o6 f6;have x6:=f6.bX;have F6:cH hh h6:=⟨by omega,fun b hb=>by rw [f6.ca b ⟨by omega,fun o n c e=>by have:=i5 _ _ _ _ e;omega⟩,F5.ca b hb]⟩;refine am ?_;have u6:=Sl.fix u2 hw2 F6;refine df (m:=L.length - i) (ws:=(L.drop i).map V.str) b6 cD rfl cD (.inl ⟨_,rfl⟩) ty9 rfl (by decide) (by decide) (by have:=Sl.len u6;rwa [hl2] at this) (by have:=Sl.cells u6;rwa [hl2] at this) (by rw [bO,hl2,bL]) jt (show (0+i+1+(L.length - i)) * 16≤140737488355328 by omega) (fun b o n k e=>by have:=i6 b o n k e;omega) ?_
    intro s7 h7 b7 i7 o7 f7;have x7:=f7.bX;refine am ?_;refine WC.ret ?_;refine az ?_
    have g6:∀b o n c,s6=.slice b o n c→hh.bX≤b:=fun b o n c e=>by
     rcases o6 _ _ _ _ e with q|⟨_,_,_,q⟩
     ·omega
     ·have:=i5 _ _ _ _ q;omega
    refine ⟨?_,?_,⟨by omega,fun b hb=>by rw [f7.ca b ⟨by omega,fun o n c e=>by have:=g6 _ _ _ _ e;omega⟩,F6.ca b hb]⟩⟩
    ·rw [hins];have hl7:(L.take i++k::L.drop i).length=0+i+1+(L.length - i):=by simp;omega
     have:=b7.sl;show Sl (E g) h7 1 s7 (L.take i++k::L.drop i).length ((L.take i++k::L.drop i).map V.str);rw [hl7];simpa using this
    ·intro b o n c e;have h7b:=i7 b o n c e;refine .inr ⟨?_,h7b⟩
     rcases o7 _ _ _ _ e with q|⟨_,_,_,q⟩
     ·omega
     ·exact g6 _ _ _ _ q
   ·(try simp (maxSteps:=2000000) only [aE,rL,rD,rB,reduceIte,af,Chk,t0,t1,t5,v1,v2]);refine dU cD rfl ty9 rfl rfl rfl ?_;intro h3 bk3' n3 f3;refine am ?_;refine jN cD rfl ty9 rfl (by decide) ?_;intro h3' z0 n3' f3';have bk3:=bk3'.fix (K:=(·<h3.bX)) (fun b o n c e=>by injection e with e;omega) f3';have f33:cH hh h3':=⟨by omega,fun b hb=>by rw [f3'.ca b (by omega),f3.ca b hb]⟩;refine am ?_;refine df (m:=i) (ws:=(L.take i).map V.str) z0 cD rfl cD (.inl ⟨_,rfl⟩) ty9 rfl (by decide) (by decide) (by have:=Sl.len (Sl.fix u1 hw1 f33);rwa [hl1] at this) (by have:=Sl.cells (Sl.fix u1 hw1 f33);rwa [hl1] at this) (by rw [bO,hl1,bL]) jt (show (0+i) * 16≤140737488355328 by omega) (fun b o n k e=>by injection e with e;omega) ?_
    intro s4 h4 b4 i4 o4 f4;have x4:=f4.bX
    have g4:∀b o n c,s4=.slice b o n c→hh.bX≤b∧b<h4.bX∧b≠hh.bX:=fun b o n c e=>⟨by
     rcases o4 _ _ _ _ e with q|⟨_,_,_,q⟩
     ·omega
     ·injection q with q;omega,i4 b o n c e,by
     rcases o4 _ _ _ _ e with q|⟨_,_,_,q⟩
     ·omega
     ·injection q with q;omega⟩
    have bk4:=bk3.fix (K:=fun c=>c<h3'.bX∧∀o k cc,V.slice h3.bX 0 0 (.lit 0)≠.slice c o k cc) (fun b o n c e=>by injection e with e;exact ⟨by omega,fun o k cc e=>by injection e with e;omega⟩) f4;have bk5:Sl (E g) h4 1 (.slice hh.bX 0 1 (.lit 1)) 1 [.str k]:=bk4.sl;have b5:Buf (E g) h4 9 1 s4 (0+i) ([]++(L.take i).map V.str):=b4;have i5:∀b o n c,s4=.slice b o n c→hh.bX≤b∧b<h4.bX:=fun b o n c e=>by have:=g4 b o n c e;omega
    have F5:cH hh h4:=⟨by omega,fun b hb=>by rw [f4.ca b ⟨by omega,fun o n c e=>by injection e with e;omega⟩,f33.ca b hb]⟩;refine am ?_;have e5:Sl (E g) h4 1 (.slice hh.bX 0 1 (.lit 1)) 1 [.str k]:=bk5;refine df (m:=1) (ws:=[.str k]) b5 cD rfl cD (.inl ⟨_,rfl⟩) ty9 rfl (by decide) (by decide) (Sl.len e5) (Sl.cells e5) rfl rfl (show (0+i+1) * 16≤140737488355328 by omega) (fun b o n k e=>by have:=i5 b o n k e;omega) ?_
    intro s6 h6 b6 i6 o6 f6;have x6:=f6.bX;have F6:cH hh h6:=⟨by omega,fun b hb=>by rw [f6.ca b ⟨by omega,fun o n c e=>by have:=i5 _ _ _ _ e;omega⟩,F5.ca b hb]⟩;refine am ?_;have u6:=Sl.fix u2 hw2 F6;refine df (m:=L.length - i) (ws:=(L.drop i).map V.str) b6 cD rfl cD (.inl ⟨_,rfl⟩) ty9 rfl (by decide) (by decide) (by have:=Sl.len u6;rwa [hl2] at this) (by have:=Sl.cells u6;rwa [hl2] at this) (by rw [bO,hl2,bL]) jt (show (0+i+1+(L.length - i)) * 16≤140737488355328 by omega) (fun b o n k e=>by have:=i6 b o n k e;omega) ?_
    intro s7 h7 b7 i7 o7 f7;have x7:=f7.bX;refine am ?_;refine WC.ret ?_;refine az ?_
    have g6:∀b o n c,s6=.slice b o n c→hh.bX≤b:=fun b o n c e=>by
     rcases o6 _ _ _ _ e with q|⟨_,_,_,q⟩
     ·omega
     ·have:=i5 _ _ _ _ q;omega
    refine ⟨?_,?_,⟨by omega,fun b hb=>by rw [f7.ca b ⟨by omega,fun o n c e=>by have:=g6 _ _ _ _ e;omega⟩,F6.ca b hb]⟩⟩
    ·rw [hins];have hl7:(L.take i++k::L.drop i).length=0+i+1+(L.length - i):=by simp;omega
     have:=b7.sl;show Sl (E g) h7 1 s7 (L.take i++k::L.drop i).length ((L.take i++k::L.drop i).map V.str);rw [hl7];simpa using this
    ·intro b o n c e;have h7b:=i7 b o n c e;refine .inr ⟨?_,h7b⟩
     rcases o7 _ _ _ _ e with q|⟨_,_,_,q⟩
     ·omega
     ·exact g6 _ _ _ _ q
 all_goals (try simp only [aE,rL,rD,rB,reduceIte])
 all_goals rfl
end Go.Proofs.OP
