/- Walks: the writer's bytes. -/
import Derived.Test.YtloblhhnlaaajaaDoorY18
set_option maxHeartbeats 4000000
set_option maxRecDepth 100000
set_option linter.unusedVariables false
set_option linter.unusedSimpArgs false
set_option linter.defProp false
namespace Go.Proofs.OP
open Go Go.Ev
open Go.Proofs
open Nat renaming reduceLT → rL, reduceEqDiff → rD, reduceBEq → rB
variable {g : T (List V)}
def qS (L:List (V×List UInt8)):List UInt8:=L.flatMap fun p=>leB p.2.length 8++p.2
theorem Hp {L:List (V×List UInt8)} {i:Nat} (hi:i<L.length):qS (L.take (i+1))=qS (L.take i)++(leB (L[i]).2.length 8++(L[i]).2):=by
 unfold qS;rw [bW hi,List.flatMap_append,bM,List.flatMap_nil,List.append_nil]
theorem vk {B:Nat}:∀{L:List (V×List UInt8)},(∀p∈L,p.2.length≤B)→(qS L).length≤(B+8) * L.length
 | [],_=>by simp [qS]
 | p::r,h=>by
  have ih:=vk (L:=r) fun q hq=>h q (aM _ hq);have h0:=h p (aT ..);simp only [qS,bM,aQ,dw,aO,Nat.mul_succ] at *;omega
theorem Cw {h:H} {S:Nat→Prop} {wb:Nat} {xs:List UInt8} {ls:V} {L:List (V×List UInt8)} (w:Wr g h S wb xs) (hwb:wb<h.bX) (hl:Vs (E g) h (fun p=>p.1) ls L) (hin:In (fun b=>b<h.bX∧b≠wb∧¬S b) ls)
  (hb:∀p∈L,Bs g h p.1 p.2∧In (fun b=>b<h.bX∧b≠wb∧¬S b) p.1∧p.2.length≤2^30) (hS:∀b,S b→b<h.bX) (hL:L.length≤64) (hx:xs.length≤2^37) :
  WF (E g) 55 [.ptr wb 0,ls] h fun _ h'=>Wr g h' (fun b=>S b∨h.bX≤b) wb (xs++qS L)∧Fix (fun b=>b<h.bX∧b≠wb∧¬S b) h h':=by
 refine WF.enter fn55 rfl ?_;refine ap ?_;(try simp only [aE,rL,rD,rB,reduceIte,Sl.lenB hl DX rfl]);refine ao ?_
 refine WC.while (fun m fr hh=>∃ts i,fr=⟨ts,27,[],55,none⟩∧Fix (fun b=>b<h.bX∧b≠wb∧¬S b) h hh∧m=L.length - i∧i≤L.length∧ts.get 0=some (.ptr wb 0)∧ts.get 6=some ls∧ts.get 7=some (.int .i64 L.length)∧ts.get 8=some (.int .i64 i)∧Wr g hh (fun b=>S b∨h.bX≤b) wb (xs++qS (L.take i))) ?_ ⟨_,0,rfl,Fix.refl _ _,rfl,by omega,?_,?_,?_,?_,?_⟩
 ·rintro m fr hh ⟨ts,i,rfl,ff,rfl,hi,t0,t6,t7,t8,wr⟩
  have xh:=ff.bX;refine ap ?_;(try simp only [aE,rL,rD,rB,reduceIte,t7,t8]);refine aw ?_
  by_cases hlt:i<L.length
  ·refine aG (WC.skip ?_);refine az ?_;obtain ⟨p,p1,p2⟩:=hl.at DX rfl cM rfl rfl hlt;have p2:=p2 hh fun b o m c e=>ff.ca b (hin _ _ _ _ e);obtain ⟨hd,hdi,hdl⟩:=hb _ (aP hlt);have hd1:Bs g hh (L[i]).1 (L[i]).2:=Sl.fix hd hdi ff
   have hlen:(qS (L.take i)).length≤(2^30+8) * 64:=by
    refine Nat.le_trans (vk fun q hq=>(hb q (List.mem_of_mem_take hq)).2.2) (Nat.mul_le_mul_left _ (by simp;omega))
   refine ao ?_;refine ap ?_;(try simp only [aE,rL,rD,rB,reduceIte,t6,t8,p1,p2]);refine ap ?_;(try simp only [aE,rL,rD,rB,reduceIte,t0,hd1.len]);refine dU ti rfl ty2 rfl rfl rfl ?_;intro h1 b1 n1 f1;have s1:Is g h1 (.slice hh.bX 0 1 (.lit 1)) [((L[i]).2.length:Int)]:=b1.sl;have w1:Wr g h1 (fun b=>S b∨(h.bX≤b∧b<hh.bX)) wb (xs++qS (L.take i)):=(wr.sub (S':=fun b=>S b∨(h.bX≤b∧b<hh.bX)) fun b hb' hs=>hs.imp id fun q=>⟨q,hb'⟩).fix f1 (by omega) fun b hb' _=>hb'
   (try simp only [aE,rL,rD,rB,reduceIte,t0]);have hn1:¬S hh.bX∧hh.bX≠wb:=⟨fun q=>by have:=hS _ q;omega,by omega⟩;refine (wT w1 (by omega) s1 (fun b o n c e=>by injection e with e;subst e;exact ⟨by omega,hn1.2,fun q=>q.elim hn1.1 fun q=>by omega⟩) (by simp;omega)).mono fun v h2 ⟨w2,f2⟩=>?_;have x2:=f2.bX;obtain ⟨s,a1,a2,a3⟩:=w2
   have e8:fT [((L[i]).2.length:Int)]=leB (L[i]).2.length 8:=by
    simp only [fT,bM,List.flatMap_nil,List.append_nil];rw [Fx (by omega)]
   rw [e8] at a2
   have F2:Fix (fun b=>b<h.bX∧b≠wb∧¬S b) h h2:=⟨by omega,fun c hc=>by
    rw [f2.ca c ⟨by omega,hc.2.1,fun q=>q.elim hc.2.2 fun q=>by omega⟩,f1.ca c (by omega),ff.ca c hc]⟩
   have hd2:Bs g h2 (L[i]).1 (L[i]).2:=Sl.fix hd hdi F2;refine ax ?_;(try simp only [aE,rL,rD,rB,reduceIte,t0,ol,aH,a1.at cM rfl]);refine ye (h0:=h2) (Grew.refl a2 (a3.sub fun b hb=>hb.2.2)) cM (.inl ⟨_,rfl⟩) (Sl.len hd2) (Sl.cells hd2) (by simp [dw];omega) ?_;intro s3 h3 g3 f3;have x3:=g3.fix.bX;have c3:=a1.fix g3.fix ⟨by omega,fun o m cc e=>(a3 _ _ _ _ e).2.1 rfl⟩;(try simp only [aE,rL,rD,rB,reduceIte,t0,ol,aH])
   have hc:V.cells s3=[s3]∧V.one s3=true:=by
    have:=Sl.len g3.buf.sl;unfold iu at this
    split at this<;>first|exact ⟨rfl,rfl⟩|cases this
   have in3:In (fun b=>(S b∨h.bX≤b)∧b≠wb∧b<h3.bX) s3:=fun b o n c e=>by
    have q1:=g3.low _ _ _ _ e
    rcases g3.own _ _ _ _ e with q|⟨o,k,c,q⟩
    ·exact ⟨.inr (by omega),by omega,q1⟩
    ·have:=a3 _ _ _ _ q;refine ⟨?_,this.2.1,q1⟩
     rcases this.1 with (q|q)|q
     ·exact .inl q
     ·exact .inr q.1
     ·exact .inr (by omega)
   refine cq c3 cM (by rw [hc.1];rfl) (by simp) (by rw [hc.1];simp [hc.2]) ?_;intro h4 b4 n4 f4;rw [hc.1] at b4;refine ax ?_;(try simp only [aE,rL,rD,rB,reduceIte,t8,ct])
   refine ⟨_,?_,_,i+1,rfl,⟨by omega,fun c hc=>?_⟩,rfl,by omega,?_⟩
   ·omega
   ·rw [f4.ca c hc.2.1,g3.fix.ca c ⟨by omega,fun o m cc e=>?_⟩,F2.ca c hc]
    rcases (a3 _ _ _ _ e).1 with (q|q)|q
    ·exact hc.2.2 q
    ·omega
    ·omega
   (try simp only [aE,rL,rD,rB,reduceIte,t0,t6,t7])
   refine ⟨aD,aD,aD,?_,s3,b4,?_,in3.sub fun b hb=>⟨hb.1,hb.2.1,by omega⟩⟩
   ·rw [cy (by omega) (by omega)];rfl
   ·have:=g3.buf.fix (K:=(·≠wb)) (in3.sub fun b hb=>hb.2.1) f4;rw [Hp hlt];simpa only [bV] using this
  ·refine aF (WC.exit ?_);have:i=L.length:=by omega
   subst this;rw [bv] at wr;refine az ?_;exact ⟨wr,ff⟩
 all_goals (try simp only [aE,rL,rD,rB,reduceIte])
 all_goals (first|trivial|rfl|(simp;done)|skip)
 ·exact (by simpa [qS] using w.sub fun b _ hb=>.inl hb)
def iz (L:List (List UInt8)):List UInt8:=L.flatMap fun s=>leB s.length 8++s
theorem yI {L:List (List UInt8)} {i:Nat} (hi:i<L.length):iz (L.take (i+1))=iz (L.take i)++(leB (L[i]).length 8++L[i]):=by
 unfold iz;rw [bW hi,List.flatMap_append,bM,List.flatMap_nil,List.append_nil]
theorem nO {B:Nat}:∀{L:List (List UInt8)},(∀p∈L,p.length≤B)→(iz L).length≤(B+8) * L.length
 | [],_=>by simp [iz]
 | p::r,h=>by
  have ih:=nO (L:=r) fun q hq=>h q (aM _ hq);have h0:=h p (aT ..);simp only [iz,bM,aQ,dw,aO,Nat.mul_succ] at *;omega
theorem Gd {h:H} {xs:List UInt8} {Q:V→H→Prop}
  (k:∀h',Bs g h' (.slice h.bX 0 xs.length (.opn 0 0)) xs→h'.bX=h.bX+1→Fix (·<h.bX) h h'→Q (.slice h.bX 0 xs.length (.opn 0 0)) h'):ej (r1 (j3 (E g) h 9 27 (.str xs))) Q:=by
 have e:j3 (E g) h 9 27 (.str xs)=some (.slice (row h 5 (xs.map u8) 2).1 0 xs.length (.opn 0 0),(row h 5 (xs.map u8) 2).2):=by
  simp only [j3,ty9,cM,ty5];rfl
 rw [e,jz];refine k _ ?_ rfl (kP fun _ h=>h);have hb:Has (row h 5 (xs.map u8) 2).2 h.bX (xs.map u8):=vC;have:=Has.sl (E:=E g) (n:=xs.length) (sz:=1) hb (by simp);obtain ⟨q1,q2,q3,q4⟩:=this;exact ⟨rfl,q2,(fun _ e=>by cases e),(fun _ _ _ _ e=>by cases e),(fun _ _ _ e=>by cases e)⟩
theorem HS {h:H} {S:Nat→Prop} {wb:Nat} {xs:List UInt8} {ls:V} {L:List (List UInt8)} (w:Wr g h S wb xs) (hwb:wb<h.bX) (hl:Ss g h ls L) (hin:In (fun b=>b<h.bX∧b≠wb∧¬S b) ls)
  (hb:∀p∈L,p.length≤2^20) (hS:∀b,S b→b<h.bX) (hL:L.length≤2^12) (hx:xs.length≤2^36) :
  WF (E g) 56 [.ptr wb 0,ls] h fun _ h'=>Wr g h' (fun b=>S b∨h.bX≤b) wb (xs++iz L)∧Fix (fun b=>b<h.bX∧b≠wb∧¬S b) h h':=by
 refine WF.enter fn56 rfl ?_;refine ap ?_;(try simp only [aE,rL,rD,rB,reduceIte,Sl.lenB hl cD rfl]);refine ao ?_
 refine WC.while (fun m fr hh=>∃ts i,fr=⟨ts,18,[],56,none⟩∧Fix (fun b=>b<h.bX∧b≠wb∧¬S b) h hh∧m=L.length - i∧i≤L.length∧ts.get 0=some (.ptr wb 0)∧ts.get 6=some ls∧ts.get 7=some (.int .i64 L.length)∧ts.get 8=some (.int .i64 i)∧Wr g hh (fun b=>S b∨h.bX≤b) wb (xs++iz (L.take i))) ?_ ⟨_,0,rfl,Fix.refl _ _,rfl,by omega,?_,?_,?_,?_,?_⟩
 ·rintro m fr hh ⟨ts,i,rfl,ff,rfl,hi,t0,t6,t7,t8,wr⟩
  have xh:=ff.bX;refine ap ?_;(try simp only [aE,rL,rD,rB,reduceIte,t7,t8]);refine aw ?_
  by_cases hlt:i<L.length
  ·refine aG (WC.skip ?_);refine az ?_;obtain ⟨p,p1,p2⟩:=hl.at cD rfl ty9 rfl rfl hlt;have p2:=p2 hh fun b o m c e=>ff.ca b (hin _ _ _ _ e);have hdl:=hb _ (aP hlt)
   have hlen:(iz (L.take i)).length≤(2^20+8) * 2^12:=by
    refine Nat.le_trans (nO fun q hq=>hb q (List.mem_of_mem_take hq)) (Nat.mul_le_mul_left _ (by simp;omega))
   refine ao ?_;refine ap ?_;(try simp only [aE,rL,rD,rB,reduceIte,t6,t8,p1,p2]);refine ap ?_;(try simp only [aE,rL,rD,rB,reduceIte,t0]);refine Gd ?_;intro h1 b1 n1 f1;(try simp only [aE,rL,rD,rB,reduceIte,t0]);refine dU DX rfl cM rfl rfl rfl ?_;intro h2 b2 n2 f2;have s2:Vs (E g) h2 (fun p=>p.1) (.slice h1.bX 0 1 (.lit 1)) [((V.slice hh.bX 0 (L[i]).length (.opn 0 0)),L[i])]:=b2.sl;have w1:Wr g h2 (fun b=>S b∨(h.bX≤b∧b<hh.bX)) wb (xs++iz (L.take i)):=((wr.sub (S':=fun b=>S b∨(h.bX≤b∧b<hh.bX)) fun b hb' hs=>hs.imp id fun q=>⟨q,hb'⟩).fix f1 (by omega) fun b hb' _=>hb').fix f2 (by omega) fun b hb' _=>hb'
   have b12:Bs g h2 (.slice hh.bX 0 (L[i]).length (.opn 0 0)) L[i]:=Sl.fix b1 (K:=(·<h1.bX)) (fun b o n c e=>by injection e with e;omega) f2;(try simp only [aE,rL,rD,rB,reduceIte,t0])
   refine (Cw w1 (by omega) s2 (fun b o n c e=>by
     injection e with e;subst e
     exact ⟨by omega,by omega,fun q=>q.elim (fun q=>by have:=hS _ q;omega) fun q=>by omega⟩)
    (fun q hq=>by
     rw [aN] at hq;subst hq;refine ⟨b12,fun b o n c e=>?_,by show (L[i]).length≤_;omega⟩;injection e with e;subst e
     exact ⟨by omega,by omega,fun q=>q.elim (fun q=>by have:=hS _ q;omega) fun q=>by omega⟩)
    (fun b q=>q.elim (fun q=>by have:=hS _ q;omega) fun q=>by omega) (by simp) (by simp;omega)).mono fun v h3 ⟨w3,f3⟩=>?_
   have x3:=f3.bX;refine ax ?_;(try simp only [aE,rL,rD,rB,reduceIte,t8,ct])
   refine ⟨_,?_,_,i+1,rfl,⟨by omega,fun c hc=>?_⟩,rfl,by omega,?_⟩
   ·omega
   ·rw [f3.ca c ⟨by omega,hc.2.1,fun q=>q.elim hc.2.2 fun q=>by omega⟩,f2.ca c (by omega),f1.ca c (by omega),ff.ca c hc]
   (try simp only [aE,rL,rD,rB,reduceIte,t0,t6,t7])
   refine ⟨aD,aD,aD,?_,?_⟩
   ·rw [cy (by omega) (by omega)];rfl
   ·have:=w3.sub (S':=fun b=>S b∨h.bX≤b) fun b _ hs=>by
     rcases hs with (q|q)|q
     ·exact .inl q
     ·exact .inr q.1
     ·exact .inr (by omega)
    rw [yI hlt,←bV];simpa [qS] using this
  ·refine aF (WC.exit ?_);have:i=L.length:=by omega
   subst this;rw [bv] at wr;refine az ?_;exact ⟨wr,ff⟩
 all_goals (try simp only [aE,rL,rD,rB,reduceIte])
 all_goals (first|trivial|rfl|(simp;done)|skip)
 ·exact (by simpa [iz] using w.sub fun b _ hb=>.inl hb)
def H1 (xs:List UInt8):List UInt8:=xs++leB (rK xs % 4294967296) 4
theorem Gb {h:H} {S:Nat→Prop} {wb:Nat} {xs:List UInt8} (w:Wr g h S wb xs) (hwb:wb<h.bX) (hx:xs.length≤2^38) :
  WF (E g) 57 [.ptr wb 0] h fun v h'=>nM g h' v (H1 xs)∧In (fun b=>(S b∨h.bX≤b)∧b≠wb∧b<h'.bX) v∧Fix (fun b=>b<h.bX∧¬S b) h h':=by
 obtain ⟨s,a1,a2,a3⟩:=w;refine WF.enter fn57 rfl ?_;refine au ?_
 ((repeat refine WC.seq ?_);refine WC.draw (plans:=Iv) (by kernel_rfl) ?_;simp only [Iv,ak])
 (try simp (maxSteps:=2000000) only [aE,rL,rD,rB,reduceIte,af,Chk,ol,aH,a1.at cM rfl]);refine zg.mono fun v h1 ⟨e1,f1⟩=>?_;subst e1;have x1:=f1.bX;have c1:=a1.fix f1;have gr:=nM.kept a2 (a3.sub fun b hb=>hb.2.2) f1;(try simp (maxSteps:=2000000) only [aE,rL,rD,rB,reduceIte,af,Chk,ol,aH,c1.at cM rfl]);refine (sum_ok gr.buf.sl (by omega)).mono fun v h2 ⟨e2,e2'⟩=>?_;subst e2 e2';(try simp (maxSteps:=2000000) only [aE,rL,rD,rB,reduceIte,af,Chk,ol,aH,c1.at cM rfl])
 refine (JI gr.buf gr.low (Nat.mod_lt _ (by decide)) (by omega)).mono fun v h3 g3=>?_;have g3':=gr.trans g3;refine am ?_;refine WC.ret ?_;refine az ?_;refine ⟨g3'.buf,fun b o n c e=>?_,⟨g3'.fix.bX,fun c hc=>g3'.fix.ca c ⟨hc.1,fun o m cc e=>hc.2 (a3 _ _ _ _ e).1⟩⟩⟩;have q1:=g3'.low _ _ _ _ e
 rcases g3'.own _ _ _ _ e with q|⟨o,k,c,q⟩
 ·exact ⟨.inr q,by omega,q1⟩
 ·have:=a3 _ _ _ _ q;exact ⟨.inl this.1,this.2.1,q1⟩
def sS:Nat→List UInt8
 | 0=>[79,66,74,49]
 | _=>[73,77,71,49]
def I5:List V:=(sS 0++sS 1).map u8
theorem oz:(E g).globs=g:=by unfold E iy;rfl
theorem mag_sl {h:H} {k:Nat} (hg:g.get 1=some I5) (hk:k<2):Bs g h (.gsl ⟨1,0+k * 4,none⟩ 4 4) (sS k):=by
 have e:(sS k).length=4:=by match k,hk with|0,_=>rfl|1,_=>rfl
 refine ⟨by rw [e];rfl,?_,(fun _ e=>by cases e),(fun _ _ _ _ e=>by cases e),(fun _ _ _ e=>by injection e;omega)⟩;rw [e];simp only [cX,cQ (aI 4),cond_true,lG,oz,hg]
 match k,hk with
 | 0,_=>rfl
 | 1,_=>rfl
theorem idx200 {k:Nat} (hk:k<2):cK (E g) 200 (.gp 1 0) (.int .i64 k)=some (.gp 1 (0+k * 4)):=by
 simp only [cK,ty200,fW,gF hk,cond_true,cL HJ,bo]
theorem H0 {o:Nat}:eL (E g) 199 (.gp 1 o) none none none=some (.gsl ⟨1,o,none⟩ 4 4):=by
 simp only [eL,HJ,cL ty5]
 rfl
theorem JC {s:V} (hs:s.cells=[s]):dY (E g) 202 [(0,s)]=some (.agg [s]):=by
 simp only [dY,ty202,cW,nth,cL cM,hs,List.all_cons,List.all_nil,cM,bF,Bool.and_true,aV,cond_false]
 rfl
theorem JF {h:H} {k:Nat} (hg:g.get 1=some I5) (hk:k<2):WF (E g) 53 [.int .i64 k] h fun v h'=>∃wb,v=.ptr wb 0∧h.bX≤wb∧wb<h'.bX∧Wr g h' (fun b=>h.bX≤b) wb (sS k)∧cH h h':=by
 refine WF.enter fn53 rfl ?_;refine au ?_;refine ap ?_;(try simp only [aE,rL,rD,rB,reduceIte,idx200 hk,H0]);refine (Jp (mag_sl hg hk) In.gsl (by match k,hk with|0,_=>decide|1,_=>decide)).mono fun v h1 o=>?_;obtain ⟨o1,o2,o3,o4⟩:=o;have x1:=o3.bX;(try simp only [aE,rL,rD,rB,reduceIte,JC o1.sl.one.1]);refine eI (v:=.agg [v]) (by (try simp only [aE,rL,rD,rB,reduceIte])) ?_;intro h2 b2 n2 f2;refine az ?_
 refine WC.ret ?_;refine az ?_;refine ⟨_,rfl,by omega,by omega,⟨v,b2,o1.fix (K:=(·<h1.bX)) o2 f2,fun b o n c e=>?_⟩,o3.trans (f2.sub)⟩;have:=o2 _ _ _ _ e;exact ⟨o4 _ _ _ _ e,by omega,by omega⟩
def bitsI (a b:Bool):Int:=(if a then 1 else 0)+(if b then 2 else 0)
abbrev Sx (n0 m q:Nat):Nat→Prop:=fun b=>n0≤b∧b<m∧b≠q
theorem tZ {h h1:H} {n0 q wb:Nat} {xs:List UInt8} {ls:V} {L:List (List UInt8)} (w:Wr g h (Sx n0 h.bX q) wb xs) (hwb:n0≤wb) (hwb2:wb<h.bX) (hq:q<h.bX) (f1:Fix (·<h.bX) h h1) (hl:Ss g h1 ls L) (hin:In (fun b=>b<h1.bX∧b≠wb∧(b<n0∨h.bX≤b∨b=q)) ls)
  (hb:∀p∈L,p.length≤2^20) (hL:L.length≤2^12) (hx:xs.length≤2^36) :
  WF (E g) 56 [.ptr wb 0,ls] h1 fun _ h'=>Wr g h' (Sx n0 h'.bX q) wb (xs++iz L)∧Fix (fun b=>b<h.bX∧(b<n0∨b=q)∧b≠wb) h h':=by
 have x1:=f1.bX;refine (HS (w.fix f1 hwb2 fun b hb _=>hb) (by omega) hl (hin.sub fun b hb=>⟨hb.1,hb.2.1,fun hs=>by omega⟩) hb (fun b hs=>by omega) hL hx).mono fun v h' ⟨w2,f2⟩=>?_;exact ⟨w2.sub fun b hb hs=>⟨by omega,hb,by omega⟩,⟨by have:=f2.bX;omega,fun b hb=>by rw [f2.ca b ⟨by omega,hb.2.2,fun hs=>by omega⟩,f1.ca b hb.1]⟩⟩
theorem Ho {h h1:H} {n0 q wb:Nat} {xs:List UInt8} {ls:V} {L:List (V×List UInt8)} (w:Wr g h (Sx n0 h.bX q) wb xs) (hwb:n0≤wb) (hwb2:wb<h.bX) (hq:q<h.bX) (f1:Fix (·<h.bX) h h1) (hl:Vs (E g) h1 (fun p=>p.1) ls L) (hin:In (fun b=>b<h1.bX∧b≠wb∧(b<n0∨h.bX≤b∨b=q)) ls)
  (hb:∀p∈L,Bs g h1 p.1 p.2∧In (fun b=>b<h1.bX∧b≠wb∧(b<n0∨h.bX≤b∨b=q)) p.1∧p.2.length≤2^30) (hL:L.length≤64) (hx:xs.length≤2^37) :
  WF (E g) 55 [.ptr wb 0,ls] h1 fun _ h'=>Wr g h' (Sx n0 h'.bX q) wb (xs++qS L)∧Fix (fun b=>b<h.bX∧(b<n0∨b=q)∧b≠wb) h h':=by
 have x1:=f1.bX;refine (Cw (w.fix f1 hwb2 fun b hb _=>hb) (by omega) hl (hin.sub fun b hb=>⟨hb.1,hb.2.1,fun hs=>by omega⟩) (fun p hp=>⟨(hb p hp).1,(hb p hp).2.1.sub fun b hb=>⟨hb.1,hb.2.1,fun hs=>by omega⟩,(hb p hp).2.2⟩) (fun b hs=>by omega) hL hx).mono fun v h' ⟨w2,f2⟩=>?_;exact ⟨w2.sub fun b hb hs=>⟨by omega,hb,by omega⟩,⟨by have:=f2.bX;omega,fun b hb=>by rw [f2.ca b ⟨by omega,hb.2.2,fun hs=>by omega⟩,f1.ca b hb.1]⟩⟩
theorem jZ {h h1:H} {n0 q wb:Nat} {xs:List UInt8} {ls:V} {L:List Int} (w:Wr g h (Sx n0 h.bX q) wb xs) (hwb:n0≤wb) (hwb2:wb<h.bX) (hq:q<h.bX) (f1:Fix (·<h.bX) h h1) (hl:Is g h1 ls L) (hin:In (fun b=>b<h1.bX∧b≠wb∧(b<n0∨h.bX≤b∨b=q)) ls)
  (hx:xs.length+8 * L.length≤2^38) :
  WF (E g) 54 [.ptr wb 0,ls] h1 fun _ h'=>Wr g h' (Sx n0 h'.bX q) wb (xs++fT L)∧Fix (fun b=>b<h.bX∧(b<n0∨b=q)∧b≠wb) h h':=by
 have x1:=f1.bX;refine (wT (w.fix f1 hwb2 fun b hb _=>hb) (by omega) hl (hin.sub fun b hb=>⟨hb.1,hb.2.1,fun hs=>by omega⟩) hx).mono fun v h' ⟨w2,f2⟩=>?_;exact ⟨w2.sub fun b hb hs=>⟨by omega,hb,by omega⟩,⟨by have:=f2.bX;omega,fun b hb=>by rw [f2.ca b ⟨by omega,hb.2.2,fun hs=>by omega⟩,f1.ca b hb.1]⟩⟩
theorem JS:(E g).eqs=es:=by unfold E iy;rfl
theorem Bs.upto {h:H} {s:V} {xs:List UInt8} (a:Bs g h s xs) {n:Nat} (hn:n≤xs.length) :
  ∃s',eL (E g) 27 s none (some (.int .i64 n)) none=some s'∧Bs g h s' (xs.take n)∧(∀K,In K s→In K s'):=by
 obtain ⟨s',h1,h2,h3,_⟩:=Sl.sub a cM rfl (cL ty5) (lo:=none) (hi:=some n) (l:=0) (r:=n) rfl rfl (Nat.zero_le _) hn;refine ⟨s',h1,?_,h3⟩;have e:(xs.take n).length=n:=by simp;omega
 unfold Bs;rw [e,List.map_take];simpa using h2
theorem Bs.from {h:H} {s:V} {xs:List UInt8} (a:Bs g h s xs) {n:Nat} (hn:n≤xs.length) :
  ∃s',eL (E g) 27 s (some (.int .i64 n)) none none=some s'∧Bs g h s' (xs.drop n)∧(∀K,In K s→In K s'):=by
 obtain ⟨s',h1,h2,h3,_⟩:=Sl.sub a cM rfl (cL ty5) (lo:=some n) (hi:=none) (l:=n) (r:=xs.length) rfl rfl hn (aI _);refine ⟨s',h1,?_,h3⟩;have e:(xs.drop n).length=xs.length - n:=by simp
 unfold Bs;rw [e,List.map_drop]
 have e2:((xs.map u8).drop (n * 1)).take ((xs.length - n) * 1)=(xs.map u8).drop n:=by
  rw [bL,bL,bT (by simp)]
 rw [e2] at h2;exact h2
theorem Bs.part {h:H} {s:V} {xs:List UInt8} (a:Bs g h s xs) {l r:Nat} (h1:l≤r) (h2:r≤xs.length) :
  ∃s',eL (E g) 27 s (some (.int .i64 l)) (some (.int .i64 r)) none=some s'∧Bs g h s' ((xs.take r).drop l)∧(∀K,In K s→In K s'):=by
 obtain ⟨s',e1,e2,e3,_⟩:=Sl.sub a cM rfl (cL ty5) (lo:=some l) (hi:=some r) (l:=l) (r:=r) rfl rfl h1 h2;refine ⟨s',e1,?_,e3⟩;have e:((xs.take r).drop l).length=r - l:=by simp;omega
 unfold Bs;rw [e,List.map_drop,List.map_take,List.drop_take];simpa using e2
structure RdS where
 xs:List UInt8
 bad:Bool
def Rd (g:T (List V)) (h:H) (K:Nat→Prop) (rb:Nat) (s:RdS):Prop:=∃bs,Has h rb [bs,.bool s.bad]∧Bs g h bs s.xs∧In K bs
theorem Rd.fix {h h':H} {K K':Nat→Prop} {rb:Nat} {s:RdS} (r:Rd g h K rb s) (f:Fix K' h h') (hrb:K' rb) (hK:∀b,K b→K' b):Rd g h' K rb s:=by
 obtain ⟨bs,a1,a2,a3⟩:=r;exact ⟨bs,a1.fix f hrb,Sl.fix a2 (a3.sub hK) f,a3⟩
def JP (g:T (List V)) (h h':H) (v:V) (xs:List UInt8):Prop:=Bs g h' v xs∧In (fun b=>h.bX≤b∧b<h'.bX) v
theorem eS {h:H} {s:V} {xs:List UInt8} (a:Bs g h s xs):j3 (E g) h 27 9 s=some (.str xs,h):=by
 have hc:=a.cells;have hl:=Sl.len a
 have hu:∀ys:List UInt8,tW (ys.map u8)=some ys:=fun ys=>by
  induction ys with
  | nil=>rfl
  | cons y r ih=>simp [tW,u8,JG,ih]
 unfold cX at hc
 split at hc
 ·simp only [iu] at hl;injection hl with hl;have:xs=[]:=List.eq_nil_of_length_eq_zero hl.symm;subst this;simp only [j3,cM,ty9,ty5]
 ·rename_i b o m c;simp only [iu] at hl;injection hl with hl;subst hl;simp only [j3,cM,ty9,ty5]
  split
  ·rename_i h0;have:xs=[]:=List.eq_nil_of_length_eq_zero h0;subst this;rfl
  ·rename_i h0;have hb:Nat.beq (xs.length * 1) 0=false:=kI (fun e=>h0 (by simpa using e));simp only [hb,cond_false] at hc;obtain ⟨_,hc⟩:=cI hc
   split at hc
   ·rw [bL] at hc;simp only [hc,hu,bo]
   ·cases hc
 ·rename_i ad m c;simp only [iu] at hl;injection hl with hl;subst hl;obtain ⟨_,hc⟩:=cI hc;rw [bL] at hc;simp only [j3,cM,ty9,ty5,hc,hu,bo]
 ·exact absurd rfl (Sl.slice a _)
 ·cases hc
theorem arrayAt {b o n:Nat} {c:Cp} (hn:4≤n):pv (E g) 199 (.slice b o n c)=some (.ptr b o):=by
 match n,hn with
 | n+1,hn=>simp only [pv,HJ,cQ hn,cond_true]
end Go.Proofs.OP
