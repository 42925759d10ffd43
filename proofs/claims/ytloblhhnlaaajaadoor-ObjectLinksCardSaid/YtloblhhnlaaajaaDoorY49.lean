/- Walks: the reference's Write. Printed by genr7.py. -/
import Derived.Test.YtloblhhnlaaajaaDoorY48
set_option maxHeartbeats 8000000
set_option maxRecDepth 100000
set_option linter.unusedVariables false
set_option linter.unusedSimpArgs false
set_option linter.defProp false
namespace Go.Proofs.OP
open Go Go.Ev
open Go.Proofs
open Nat renaming reduceLT → rL, reduceEqDiff → rD, reduceBEq → rB
variable {g : T (List V)}
theorem Im.grew {h h':H} {e sz n n0:Nat} {s s':V} {vs:List V} {c:Ic} {o:ImgD} (a:Im g h (·<n0) c o) (G:Grew (E g) e sz h s h' s' n vs) (hn:n0≤h.bX) (hs:In (fun b=>n0≤b) s):Im g h' (·<n0) c o :=
 (a.fix (K:=(·<n0)) G.fix fun b hb=>⟨by omega,fun o m cc q=>by have:=hs _ _ _ _ q;omega⟩).up fun b hb=>hb
theorem numBs3 (a b c:Int):fT [a]++(fT [b]++fT [c])=fT [a,b,c]:=by simp [fT]
theorem I1 (a b:Int):fT [a]++fT [b]=fT [a,b]:=by simp [fT]
theorem Gf {h:H} {c:Ic} {x:ImgD} (im:Im g h (·<h.bX) c x) (fit:FitsI x) :
  WF (E g) 21 [.agg (c.cells x)] h fun v h'=>cH h h'∧(gc x=false→v=.tuple [.nils,i64 14])∧(gc x=true→∃s,v=.tuple [s,i64 0]∧nM g h' s (G0 x)∧In (fun b=>h.bX≤b∧b<h'.bX) s):=by
 refine WF.enter fn21 rfl ?_;refine au ?_;refine eI (v:=.agg (c.cells x)) (by (try simp only [aE,rL,rD,rB,reduceIte])) ?_;intro h1 b1 n1 f1;refine az ?_;have l1:cx (E g) h1 60 (.ptr h.bX 0)=some (.agg (c.cells x)):=b1.agg gY rfl (aI 7);have b1:Has h1 h.bX [i64 x.base,c.bytes,i64 x.code,i64 x.entry,c.cg,c.cb,c.cf]:=b1;have ob1:=(im.fix f1 (fun _ h=>h)).up (K':=(·<h1.bX)) (fun _ h=>by omega);refine ap ?_
 (try simp only [aE,rL,rD,rB,reduceIte,l1]);refine (Gp ob1 fit).mono fun v h3 ⟨e3,f3⟩=>?_;rw [Gr] at e3;subst e3;have x3:=f3.bX;have b3:=b1.fix f3;have ob3:=(ob1.fix f3 (fun _ h=>h)).up (K':=(·<h3.bX)) (fun _ h=>by omega);(try simp only [aE,rL,rD,rB,reduceIte,cY]);refine aw ?_
 cases hce:gc x with
 | false =>
  refine WC.cond (b:=true) (by (try simp only [aE,rL,rD,rB,reduceIte,hce]);(try simp);(try omega)) ?_;refine au ?_;refine WC.ret ?_;refine az ?_;exact ⟨f1.trans (f3.sub),fun _=>by trivial,fun q=>by cases q⟩
 | true =>
 refine WC.cond (b:=false) (by (try simp only [aE,rL,rD,rB,reduceIte,hce]);(try simp);(try omega)) (WC.skip ?_);refine az ?_;have sm:=yQ hce;obtain ⟨-,-,-,s4,-,-,-,s7⟩:=sm.head;have s5:=sm.cg;have s6:=sm.cb
 ((repeat refine WC.seq ?_);refine WC.draw (plans:=IOq) (by kernel_rfl) ?_;simp only [IOq,ak])
 (try simp (maxSteps:=2000000) only [aE,rL,rD,rB,reduceIte,af,Chk,cZ,dW,dL,dB,dE,dx,dD,aH,b3.at ty2 rfl,b3.at cM rfl,b3.at dC rfl,b3.at dp rfl,b3.at cD rfl,Sl.lenB ob3.cg dC rfl,Sl.lenB ob3.cb dp rfl,Sl.lenB ob3.cf cD rfl,eS ob3.bytes]);refine nT (n:=4) (cs:=(sS 1).map u8) cM rfl ty5 rfl (by decide) (by decide) (by exact Hf rfl rfl rfl rfl) rfl ?_;intro h4 b4' n4 f4;have b4:=b3.fix f4;have ob4:=ob3.fix f4 (fun _ h=>h)
 (try simp (maxSteps:=2000000) only [aE,rL,rD,rB,reduceIte,af,Chk,cZ,dW,dL,dB,dE,dx,dD,aH,b4.at ty2 rfl,b4.at cM rfl,b4.at dC rfl,b4.at dp rfl,b4.at cD rfl,Sl.lenB ob4.cg dC rfl,Sl.lenB ob4.cb dp rfl,Sl.lenB ob4.cf cD rfl,eS ob4.bytes]);refine H3 b4' cM rfl ty5 rfl ?_;intro h5 m5 n5 f5;have b5:=b4.fix f5;have ob5:=ob4.fix f5 (fun b hb=>by omega);have B5:nM g h5 (.slice h3.bX 0 4 (.lit 4)) (sS 1):=.lit m5 (mw (cs:=(sS 1).map u8) (d:=[.nilp]))
 have inB:In (fun b=>h3.bX≤b) (.slice h3.bX 0 4 (.lit 4)):=fun b o n c e=>by injection e with e;omega
 have loB:In (·<h5.bX) (.slice h3.bX 0 4 (.lit 4)):=fun b o n c e=>by injection e with e;omega
 have G5:lq g h5 (.slice h3.bX 0 4 (.lit 4)) h5 (.slice h3.bX 0 4 (.lit 4)) (sS 1):=Grew.refl B5 loB;(try simp (maxSteps:=2000000) only [aE,rL,rD,rB,reduceIte,af,Chk,cZ,dW,dL,dB,dE,dx,dD,aH,b5.at ty2 rfl,b5.at cM rfl,b5.at dC rfl,b5.at dp rfl,b5.at cD rfl,Sl.lenB ob5.cg dC rfl,Sl.lenB ob5.cb dp rfl,Sl.lenB ob5.cf cD rfl,eS ob5.bytes]);refine (kM (n:=x.base) G5.buf G5.low (by (try simp only [aQ,gQ,dA,cO,aO,bD]);omega)).mono fun v6 h6 g6=>?_
 have G6:=G5.trans g6;have x6:=g6.fix.bX;have b6:=G6.keeps b5 (by omega) (inB.sub);have ob6:=ob5.grew G6 (by omega) inB;(try simp (maxSteps:=2000000) only [aE,rL,rD,rB,reduceIte,af,Chk,cZ,dW,dL,dB,dE,dx,dD,aH,b6.at ty2 rfl,b6.at cM rfl,b6.at dC rfl,b6.at dp rfl,b6.at cD rfl,Sl.lenB ob6.cg dC rfl,Sl.lenB ob6.cb dp rfl,Sl.lenB ob6.cf cD rfl,eS ob6.bytes]);refine (vx (t:=x.bytes) G6.buf G6.low (by (try simp only [aQ,gQ,dA,cO,aO,bD]);omega) (by omega)).mono fun v7 h7 g7=>?_
 have G7:=G6.trans g7;have x7:=g7.fix.bX;have b7:=G7.keeps b5 (by omega) (inB.sub);have ob7:=ob5.grew G7 (by omega) inB;(try simp (maxSteps:=2000000) only [aE,rL,rD,rB,reduceIte,af,Chk,cZ,dW,dL,dB,dE,dx,dD,aH,b7.at ty2 rfl,b7.at cM rfl,b7.at dC rfl,b7.at dp rfl,b7.at cD rfl,Sl.lenB ob7.cg dC rfl,Sl.lenB ob7.cb dp rfl,Sl.lenB ob7.cf cD rfl,eS ob7.bytes]);refine (kM (n:=x.code) G7.buf G7.low (by (try simp only [aQ,gQ,dA,cO,aO,bD]);omega)).mono fun v8 h8 g8=>?_
 have G8:=G7.trans g8;have x8:=g8.fix.bX;have b8:=G8.keeps b5 (by omega) (inB.sub);have ob8:=ob5.grew G8 (by omega) inB;(try simp (maxSteps:=2000000) only [aE,rL,rD,rB,reduceIte,af,Chk,cZ,dW,dL,dB,dE,dx,dD,aH,b8.at ty2 rfl,b8.at cM rfl,b8.at dC rfl,b8.at dp rfl,b8.at cD rfl,Sl.lenB ob8.cg dC rfl,Sl.lenB ob8.cb dp rfl,Sl.lenB ob8.cf cD rfl,eS ob8.bytes]);refine (kM (n:=x.entry) G8.buf G8.low (by (try simp only [aQ,gQ,dA,cO,aO,bD]);omega)).mono fun v9 h9 g9=>?_
 have G9:=G8.trans g9;have x9:=g9.fix.bX;have b9:=G9.keeps b5 (by omega) (inB.sub);have ob9:=ob5.grew G9 (by omega) inB;(try simp (maxSteps:=2000000) only [aE,rL,rD,rB,reduceIte,af,Chk,cZ,dW,dL,dB,dE,dx,dD,aH,b9.at ty2 rfl,b9.at cM rfl,b9.at dC rfl,b9.at dp rfl,b9.at cD rfl,Sl.lenB ob9.cg dC rfl,Sl.lenB ob9.cb dp rfl,Sl.lenB ob9.cf cD rfl,eS ob9.bytes]);refine ap ?_;(try simp only [aE,rL,rD,rB,reduceIte,cZ,dW,dL,dB,dE,dx,dD,aH,b9.at ty2 rfl,b9.at cM rfl,b9.at dC rfl,b9.at dp rfl,b9.at cD rfl,Sl.lenB ob9.cg dC rfl,Sl.lenB ob9.cb dp rfl,Sl.lenB ob9.cf cD rfl])
 refine (kM (n:=(x.cg.length:Int)) G9.buf G9.low (by (try simp only [aQ,gQ,dA,cO,aO,bD]);omega)).mono fun v10 h10 g10=>?_;have G10:=G9.trans g10;have x10:=g10.fix.bX;have b10:=G10.keeps b5 (by omega) (inB.sub);have ob10:=ob5.grew G10 (by omega) inB;(try simp only [aE,rL,rD,rB,reduceIte,cZ,dW,dL,dB,dE,dx,dD,aH,b10.at ty2 rfl,b10.at cM rfl,b10.at dC rfl,b10.at dp rfl,b10.at cD rfl,Sl.lenB ob10.cg dC rfl,Sl.lenB ob10.cb dp rfl,Sl.lenB ob10.cf cD rfl])
 generalize hX:sS 1++fT [x.base]++iz [x.bytes]++fT [x.code]++fT [x.entry]++fT [(x.cg.length:Int)]=X at G10;have lX:X.length≤140000:=by rw [←hX];simp only [aQ,gQ,dA,cO,aO,bD];omega
 refine ap ?_;(try simp only [aE,rL,rD,rB,reduceIte,cZ,dW,dL,dB,dE,dx,dD,aH,b10.at ty2 rfl,b10.at cM rfl,b10.at dC rfl,b10.at dp rfl,b10.at cD rfl,Sl.lenB ob10.cg dC rfl,Sl.lenB ob10.cb dp rfl,Sl.lenB ob10.cf cD rfl]);refine ao ?_
 refine WC.while (fun m fr hh=>∃ts i sv,fr=⟨ts,92,[],21,none⟩∧lq g h5 (.slice h3.bX 0 4 (.lit 4)) hh sv (X++(x.cg.take i).flatMap pr)∧m=x.cg.length - i∧i≤x.cg.length∧ts.get 1=some (.ptr h.bX 0)∧ts.get 4=some sv∧ts.get 35=some c.cg∧ts.get 36=some (.int .i64 x.cg.length)∧ts.get 37=some (.int .i64 i)) ?_ ⟨_,0,v10,rfl,by simpa using G10,rfl,by omega,?_,?_,?_,?_,?_⟩
 ·rintro m fr hh ⟨ts,i,sv,rfl,GG,rfl,hi,t1,t4,ta,tb,tc⟩
  have xh:=GG.fix.bX;have bh:=GG.keeps b5 (by omega) (inB.sub);have obh:=ob5.grew GG (by omega) inB;refine ap ?_;(try simp only [aE,rL,rD,rB,reduceIte,tb,tc]);refine aw ?_
  by_cases hlt:i<x.cg.length
  ·refine aG (WC.skip ?_);refine az ?_;have hsl:=sm.ename _ (aP hlt)
   have lY:((x.cg.take i).flatMap pr).length≤80 * x.cg.length:=by
    refine Nat.le_trans (jv (B:=80) fun y hy=>?_) (Nat.mul_le_mul_left _ (by simp;omega));have:=sm.ename y (List.mem_of_mem_take hy);simp only [pr,aQ,dA,cO,aO,bD];omega
   obtain ⟨p,p1,p2⟩:=obh.cg.at (fun _=>rfl) dC rfl nN rfl (by decide) rfl hlt;have p2:=p2 hh fun _ _ _ _ _=>rfl;refine ao ?_;refine ap ?_;(try simp only [aE,rL,rD,rB,reduceIte,ta,tc,p1,p2]);refine cz nN ?_;intro k1 d1 m1 e1;refine az ?_;refine cq d1 nN rfl (by decide) rfl ?_;intro k2 d2 m2 e2;have E2:Fix (·<hh.bX) hh k2:=⟨by omega,fun c hc=>by rw [e2.ca c (by omega),e1.ca c (by omega)]⟩;have G2:lq g h5 (.slice h3.bX 0 4 (.lit 4)) k2 sv (X++(x.cg.take i).flatMap pr):=GG.keep E2
   have nq:In (·≠hh.bX) sv:=fun b o n c q=>by have:=GG.low _ _ _ _ q;omega
   have d2:Has k2 hh.bX [.str x.cg[i].name,i64 x.cg[i].cl]:=d2;refine az ?_
   ((repeat refine WC.seq ?_);refine WC.draw (plans:=IL) (by kernel_rfl) ?_;simp only [IL,ak])
   (try simp (maxSteps:=2000000) only [aE,rL,rD,rB,reduceIte,af,Chk,t4,kV,pQ,aH,d2.at ty9 rfl,d2.at ty2 rfl,i64]);refine (vx (t:=x.cg[i].name) G2.buf G2.low (by simp only [aQ,dA,cO,aO,bD];omega) (by omega)).mono fun w3 k3 g3=>?_;have J3:=g3;have y3:=g3.fix.bX;have d3:=J3.keeps d2 (by omega) nq;(try simp (maxSteps:=2000000) only [aE,rL,rD,rB,reduceIte,af,Chk,t4,kV,pQ,aH,d3.at ty9 rfl,d3.at ty2 rfl,i64])
   refine (kM (n:=x.cg[i].cl) J3.buf J3.low (by simp only [aQ,dA,cO,aO,bD];omega)).mono fun w4 k4 g4=>?_;have J4:=J3.trans g4;have y4:=g4.fix.bX;have d4:=J4.keeps d2 (by omega) nq;(try simp (maxSteps:=2000000) only [aE,rL,rD,rB,reduceIte,af,Chk,t4,kV,pQ,aH,d4.at ty9 rfl,d4.at ty2 rfl,i64]);refine ap ?_;(try simp only [aE,rL,rD,rB,reduceIte,tc,ct])
   refine ⟨_,?_,_,i+1,w4,rfl,?_,rfl,by omega,?_⟩
   ·omega
   ·have:=G2.trans J4;rw [pM pr hlt];simpa only [pr,bV,I1] using this
   (try simp only [aE,rL,rD,rB,reduceIte,t1,ta,tb]);refine ⟨aD,aD,aD,aD,?_⟩;rw [cy (by omega) (by omega)];rfl
  ·refine aF (WC.exit ?_);have:i=x.cg.length:=by omega
   subst this;rw [bv] at GG;refine az ?_;generalize hY:X++x.cg.flatMap pr=Y at GG
   have lY:Y.length≤1000000:=by
    rw [←hY,aQ]
    have:(x.cg.flatMap pr).length≤80 * x.cg.length:=jv fun y hy=>by
     have:=sm.ename y hy;simp only [pr,aQ,dA,cO,aO,bD];omega
    omega
   have G11:=GG;have b11:=bh;have ob11:=obh;refine ap ?_;(try simp only [aE,rL,rD,rB,reduceIte,t1,t4,cZ,dW,dL,dB,dE,dx,dD,aH,b11.at ty2 rfl,b11.at cM rfl,b11.at dC rfl,b11.at dp rfl,b11.at cD rfl,Sl.lenB ob11.cg dC rfl,Sl.lenB ob11.cb dp rfl,Sl.lenB ob11.cf cD rfl]);refine (kM (n:=(x.cb.length:Int)) G11.buf G11.low (by (try simp only [aQ,gQ,dA,cO,aO,bD]);omega)).mono fun v12 h12 g12=>?_;have G12:=G11.trans g12
   have x12:=g12.fix.bX;have b12:=G12.keeps b5 (by omega) (inB.sub);have ob12:=ob5.grew G12 (by omega) inB;(try simp only [aE,rL,rD,rB,reduceIte,cZ,dW,dL,dB,dE,dx,dD,aH,b12.at ty2 rfl,b12.at cM rfl,b12.at dC rfl,b12.at dp rfl,b12.at cD rfl,Sl.lenB ob12.cg dC rfl,Sl.lenB ob12.cb dp rfl,Sl.lenB ob12.cf cD rfl,t1,t4]);generalize hZ:Y++fT [(x.cb.length:Int)]=Z at G12;have lZ:Z.length≤1000008:=by rw [←hZ];simp only [aQ,cO,aO,bD];omega
   refine ap ?_;(try simp only [aE,rL,rD,rB,reduceIte,t1,t4,cZ,dW,dL,dB,dE,dx,dD,aH,b12.at ty2 rfl,b12.at cM rfl,b12.at dC rfl,b12.at dp rfl,b12.at cD rfl,Sl.lenB ob12.cg dC rfl,Sl.lenB ob12.cb dp rfl,Sl.lenB ob12.cf cD rfl]);refine ao ?_
   refine WC.while (fun m fr hh=>∃ts i sv,fr=⟨ts,92,[],21,none⟩∧lq g h5 (.slice h3.bX 0 4 (.lit 4)) hh sv (Z++(x.cb.take i).flatMap jW)∧m=x.cb.length - i∧i≤x.cb.length∧ts.get 1=some (.ptr h.bX 0)∧ts.get 4=some sv∧ts.get 55=some c.cb∧ts.get 56=some (.int .i64 x.cb.length)∧ts.get 57=some (.int .i64 i)) ?_ ⟨_,0,v12,rfl,by simpa using G12,rfl,by omega,?_,?_,?_,?_,?_⟩
   ·rintro m fr hh ⟨ts,i,sv,rfl,GG,rfl,hi,t1,t4,ta,tb,tc⟩
    have xh:=GG.fix.bX;have bh:=GG.keeps b5 (by omega) (inB.sub);have obh:=ob5.grew GG (by omega) inB;refine ap ?_;(try simp only [aE,rL,rD,rB,reduceIte,tb,tc]);refine aw ?_
    by_cases hlt:i<x.cb.length
    ·refine aG (WC.skip ?_);refine az ?_;have hsl:=sm.sname _ (aP hlt)
     have lY:((x.cb.take i).flatMap jW).length≤88 * x.cb.length:=by
      refine Nat.le_trans (jv (B:=88) fun y hy=>?_) (Nat.mul_le_mul_left _ (by simp;omega));have:=sm.sname y (List.mem_of_mem_take hy);simp only [jW,aQ,dA,cO,aO,bD];omega
     obtain ⟨p,p1,p2⟩:=obh.cb.at (fun _=>rfl) dp rfl kZ rfl (by decide) rfl hlt;have p2:=p2 hh fun _ _ _ _ _=>rfl;refine ao ?_;refine ap ?_;(try simp only [aE,rL,rD,rB,reduceIte,ta,tc,p1,p2]);refine cz kZ ?_;intro k1 d1 m1 e1;refine az ?_;refine cq d1 kZ rfl (by decide) rfl ?_;intro k2 d2 m2 e2;have E2:Fix (·<hh.bX) hh k2:=⟨by omega,fun c hc=>by rw [e2.ca c (by omega),e1.ca c (by omega)]⟩;have G2:lq g h5 (.slice h3.bX 0 4 (.lit 4)) k2 sv (Z++(x.cb.take i).flatMap jW):=GG.keep E2
     have nq:In (·≠hh.bX) sv:=fun b o n c q=>by have:=GG.low _ _ _ _ q;omega
     have d2:Has k2 hh.bX [.str x.cb[i].name,i64 x.cb[i].cl,i64 x.cb[i].bound]:=d2;refine az ?_
     ((repeat refine WC.seq ?_);refine WC.draw (plans:=Ew) (by kernel_rfl) ?_;simp only [Ew,ak])
     (try simp (maxSteps:=2000000) only [aE,rL,rD,rB,reduceIte,af,Chk,t4,kg,il,jb,aH,d2.at ty9 rfl,d2.at ty2 rfl,i64]);refine (vx (t:=x.cb[i].name) G2.buf G2.low (by simp only [aQ,dA,cO,aO,bD];omega) (by omega)).mono fun w3 k3 g3=>?_;have J3:=g3;have y3:=g3.fix.bX;have d3:=J3.keeps d2 (by omega) nq;(try simp (maxSteps:=2000000) only [aE,rL,rD,rB,reduceIte,af,Chk,t4,kg,il,jb,aH,d3.at ty9 rfl,d3.at ty2 rfl,i64])
     refine (kM (n:=x.cb[i].cl) J3.buf J3.low (by simp only [aQ,dA,cO,aO,bD];omega)).mono fun w4 k4 g4=>?_;have J4:=J3.trans g4;have y4:=g4.fix.bX;have d4:=J4.keeps d2 (by omega) nq;(try simp (maxSteps:=2000000) only [aE,rL,rD,rB,reduceIte,af,Chk,t4,kg,il,jb,aH,d4.at ty9 rfl,d4.at ty2 rfl,i64]);refine (kM (n:=x.cb[i].bound) J4.buf J4.low (by simp only [aQ,dA,cO,aO,bD];omega)).mono fun w5 k5 g5=>?_;have J5:=J4.trans g5
     have y5:=g5.fix.bX;have d5:=J5.keeps d2 (by omega) nq;(try simp (maxSteps:=2000000) only [aE,rL,rD,rB,reduceIte,af,Chk,t4,kg,il,jb,aH,d5.at ty9 rfl,d5.at ty2 rfl,i64]);refine ap ?_;(try simp only [aE,rL,rD,rB,reduceIte,tc,ct])
     refine ⟨_,?_,_,i+1,w5,rfl,?_,rfl,by omega,?_⟩
     ·omega
     ·have:=G2.trans J5;rw [pM jW hlt];simpa only [jW,bV,I1] using this
     (try simp only [aE,rL,rD,rB,reduceIte,t1,ta,tb]);refine ⟨aD,aD,aD,aD,?_⟩;rw [cy (by omega) (by omega)];rfl
    ·refine aF (WC.exit ?_);have:i=x.cb.length:=by omega
     subst this;rw [bv] at GG;refine az ?_;generalize hW:Z++x.cb.flatMap jW=W at GG
     have lW:W.length≤2000000:=by
      rw [←hW,aQ]
      have:(x.cb.flatMap jW).length≤88 * x.cb.length:=jv fun y hy=>by
       have:=sm.sname y hy;simp only [jW,aQ,dA,cO,aO,bD];omega
      omega
     have G13:=GG;have b13:=bh;have ob13:=obh;refine ap ?_;(try simp only [aE,rL,rD,rB,reduceIte,t1,t4,cZ,dW,dL,dB,dE,dx,dD,aH,b13.at ty2 rfl,b13.at cM rfl,b13.at dC rfl,b13.at dp rfl,b13.at cD rfl,Sl.lenB ob13.cg dC rfl,Sl.lenB ob13.cb dp rfl,Sl.lenB ob13.cf cD rfl]);refine (kM (n:=(x.cf.length:Int)) G13.buf G13.low (by (try simp only [aQ,gQ,dA,cO,aO,bD]);omega)).mono fun v14 h14 g14=>?_;have G14:=G13.trans g14
     have x14:=g14.fix.bX;have b14:=G14.keeps b5 (by omega) (inB.sub);have ob14:=ob5.grew G14 (by omega) inB;(try simp only [aE,rL,rD,rB,reduceIte,cZ,dW,dL,dB,dE,dx,dD,aH,b14.at ty2 rfl,b14.at cM rfl,b14.at dC rfl,b14.at dp rfl,b14.at cD rfl,Sl.lenB ob14.cg dC rfl,Sl.lenB ob14.cb dp rfl,Sl.lenB ob14.cf cD rfl,t1,t4]);generalize hT:W++fT [(x.cf.length:Int)]=T at G14;have lT:T.length≤2000008:=by rw [←hT];simp only [aQ,cO,aO,bD];omega
     refine ap ?_;(try simp only [aE,rL,rD,rB,reduceIte,t1,t4,cZ,dW,dL,dB,dE,dx,dD,aH,b14.at ty2 rfl,b14.at cM rfl,b14.at dC rfl,b14.at dp rfl,b14.at cD rfl,Sl.lenB ob14.cg dC rfl,Sl.lenB ob14.cb dp rfl,Sl.lenB ob14.cf cD rfl]);refine ao ?_
     refine WC.while (fun m fr hh=>∃ts i sv,fr=⟨ts,92,[],21,none⟩∧lq g h5 (.slice h3.bX 0 4 (.lit 4)) hh sv (T++iz (x.cf.take i))∧m=x.cf.length - i∧i≤x.cf.length∧ts.get 1=some (.ptr h.bX 0)∧ts.get 4=some sv∧ts.get 78=some c.cf∧ts.get 79=some (.int .i64 x.cf.length)∧ts.get 80=some (.int .i64 i)) ?_ ⟨_,0,v14,rfl,by simpa [iz] using G14,rfl,by omega,?_,?_,?_,?_,?_⟩
     ·rintro m fr hh ⟨ts,i,sv,rfl,GG,rfl,hi,t1,t4,ta,tb,tc⟩
      have xh:=GG.fix.bX;have bh:=GG.keeps b5 (by omega) (inB.sub);have obh:=ob5.grew GG (by omega) inB;refine ap ?_;(try simp only [aE,rL,rD,rB,reduceIte,tb,tc]);refine aw ?_;have lY:(iz (x.cf.take i)).length≤72 * x.cf.length:=Nat.le_trans (nO (B:=64) fun p hp=>sm.nname p (List.mem_of_mem_take hp)) (Nat.mul_le_mul_left _ (by simp;omega))
      by_cases hlt:i<x.cf.length
      ·refine aG (WC.skip ?_);refine az ?_;have hsl:=sm.nname _ (aP hlt);obtain ⟨p,p1,p2⟩:=obh.cf.at cD rfl ty9 rfl rfl hlt;have p2:=p2 hh fun _ _ _ _ _=>rfl;refine ao ?_;refine ap ?_;(try simp only [aE,rL,rD,rB,reduceIte,ta,tc,p1,p2]);refine ap ?_;(try simp only [aE,rL,rD,rB,reduceIte,t4]);refine (vx (t:=x.cf[i]) GG.buf GG.low (by simp only [aQ];omega) (by omega)).mono fun w3 k3 g3=>?_;refine ax ?_
       (try simp only [aE,rL,rD,rB,reduceIte,tc,ct])
       refine ⟨_,?_,_,i+1,w3,rfl,?_,rfl,by omega,?_⟩
       ·omega
       ·have:=GG.trans g3;rw [yI hlt];simpa only [iz,bM,List.flatMap_nil,List.append_nil,bV] using this
       (try simp only [aE,rL,rD,rB,reduceIte,t1,ta,tb]);refine ⟨aD,aD,aD,aD,?_⟩;rw [cy (by omega) (by omega)];rfl
      ·refine aF (WC.exit ?_);have:i=x.cf.length:=by omega
       subst this;rw [bv] at GG;refine az ?_;rw [bv] at lY;have G15:=GG;refine ap ?_;(try simp only [aE,rL,rD,rB,reduceIte,t1,t4]);refine (rsum_ok G15.buf.sl (by simp only [aQ,dA];omega)).mono fun v16 h16 ⟨e16,e16'⟩=>?_;subst e16 e16';refine az ?_;refine (uh (k:=4) (n:=((rK (T++iz x.cf) % 4294967296:Nat):Int)) G15.buf G15.low (by omega) (by simp only [aQ,dA];omega)).mono fun v17 h17 g17=>?_;have G17:=G15.trans g17
       have x17:=G17.fix.bX;refine az ?_;refine WC.ret ?_;refine az ?_
       refine ⟨⟨by omega,fun b hb=>?_⟩,fun q=>(by cases q),fun _=>⟨_,rfl,?_,fun b o n c e=>⟨?_,G17.low _ _ _ _ e⟩⟩⟩
       ·rw [G17.fix.ca b ⟨by omega,fun o m cc e=>by injection e with e;omega⟩,f5.ca b (by omega),f4.ca b (by omega),f3.ca b (by omega),f1.ca b hb]
       ·have:=G17.buf;rw [Fx (by omega)] at this;rw [←hT,←hW,←hZ,←hY,←hX] at this
        have e3:G0 x=H1 (sS 1++fT [x.base]++iz [x.bytes]++fT [x.code]++fT [x.entry]++fT [(x.cg.length:Int)]++x.cg.flatMap pr++fT [(x.cb.length:Int)]++x.cb.flatMap jW++fT [(x.cf.length:Int)]++iz x.cf):=by
         unfold G0 imgP;rw [←numBs3 x.code x.entry];simp only [bV]
        rw [e3];exact this
       ·rcases G17.own _ _ _ _ e with q|⟨_,_,_,q⟩
        ·omega
        ·injection q with q;omega
     all_goals (try simp only [aE,rL,rD,rB,reduceIte,t1,t4])
     all_goals (first|trivial|rfl|simp)
   all_goals (try simp only [aE,rL,rD,rB,reduceIte,t1,t4])
   all_goals (first|trivial|rfl|simp)
 all_goals (try simp only [aE,rL,rD,rB,reduceIte])
 all_goals (first|trivial|rfl|simp)
end Go.Proofs.OP
