/- Walks: Write of an image. Printed by genr6.py. -/
import Derived.Test.YtloblhhnlaaajaaDoorY47
set_option maxHeartbeats 8000000
set_option maxRecDepth 100000
set_option linter.unusedVariables false
set_option linter.unusedSimpArgs false
set_option linter.defProp false
namespace Go.Proofs.OP
open Go Go.Ev
open Go.Proofs
open Nat renaming reduceLT → rL, reduceEqDiff → rD, reduceBEq → rB
variable {g : T (List V)}
def pr (s:ExpD):List UInt8:=iz [s.name]++fT [s.cl]
def jW (s:SlotD):List UInt8:=iz [s.name]++fT [s.cl,s.bound]
def imgP (x:ImgD):List UInt8:=sS 1++fT [x.base]++iz [x.bytes]++fT [x.code,x.entry,(x.cg.length:Int)]++x.cg.flatMap pr++fT [(x.cb.length:Int)]++x.cb.flatMap jW++fT [(x.cf.length:Int)]++iz x.cf
def G0 (x:ImgD):List UInt8:=H1 (imgP x)
theorem HB {h:H} {c:Ic} {x:ImgD} (hg:g.get 1=some I5) (im:Im g h (·<h.bX) c x) (fit:FitsI x) :
  WF (E g) 20 [.agg (c.cells x)] h fun v h'=>cH h h'∧(gc x=false→v=.tuple [.nils,i64 14])∧(gc x=true→∃s,v=.tuple [s,i64 0]∧nM g h' s (G0 x)∧In (fun b=>h.bX≤b∧b<h'.bX) s):=by
 refine WF.enter fn20 rfl ?_;refine au ?_;refine eI (v:=.agg (c.cells x)) (by (try simp only [aE,rL,rD,rB,reduceIte])) ?_;intro h1 b1 n1 f1;refine az ?_;have ob1:=(im.fix f1 (fun _ h=>h)).up (K':=(·<h1.bX)) (fun _ h=>by omega);refine au ?_;refine (H9 b1 (by omega) ob1 fit).mono fun v h3 ⟨e3,f3⟩=>?_;subst e3;have b1:Has h1 h.bX [i64 x.base,c.bytes,i64 x.code,i64 x.entry,c.cg,c.cb,c.cf]:=b1;have x3:=f3.bX
 have b3:=b1.fix f3;have ob3:=(ob1.fix f3 (fun _ h=>h)).up (K':=(·<h3.bX)) (fun _ h=>by omega);(try simp only [aE,rL,rD,rB,reduceIte,cY]);refine aw ?_
 cases hce:gc x with
 | false =>
  refine WC.cond (b:=true) (by (try simp only [aE,rL,rD,rB,reduceIte,hce]);(try simp);(try omega)) ?_;refine au ?_;refine WC.ret ?_;refine az ?_;exact ⟨f1.trans (f3.sub),fun _=>by trivial,fun q=>by cases q⟩
 | true =>
 refine WC.cond (b:=false) (by (try simp only [aE,rL,rD,rB,reduceIte,hce]);(try simp);(try omega)) (WC.skip ?_);refine az ?_;have sm:=yQ hce;obtain ⟨-,-,-,s4,-,-,-,s7⟩:=sm.head;have s5:=sm.cg;have s6:=sm.cb;refine au ?_;refine (JF (k:=1) hg (by decide)).mono fun v h4 ⟨wb,e4,w1,w2,w4,F4⟩=>?_;subst e4;have x4:=F4.bX;have w4:Wr g h4 (Sx h3.bX h4.bX wb) wb (sS 1):=w4.sub' fun b hb hn hs=>⟨hs,hb,hn⟩;have b4:=b3.fix F4
 have ob4:=ob3.fix F4 (fun _ h=>h);refine ax ?_;(try simp only [aE,rL,rD,rB,reduceIte,cV,dX,ed,eh,gE,gC,eW,aH,b4.at ty2 rfl,b4.at cM rfl,b4.at ga rfl,b4.at fY rfl,b4.at cD rfl,Sl.lenB ob4.cg ga rfl,Sl.lenB ob4.cb fY rfl,Sl.lenB ob4.cf cD rfl]);refine dU ti rfl ty2 rfl rfl rfl ?_;intro h4a l4 n4a f4a;(try simp only [aE,rL,rD,rB,reduceIte,cV,dX,ed,eh,gE,gC,eW,aH,b4.at ty2 rfl,b4.at cM rfl,b4.at ga rfl,b4.at fY rfl,b4.at cD rfl,Sl.lenB ob4.cg ga rfl,Sl.lenB ob4.cb fY rfl,Sl.lenB ob4.cf cD rfl])
 refine (jZ (L:=[x.base]) (n0:=h3.bX) (q:=wb) w4 (by omega) (by omega) (by omega) f4a l4.sl (pJ (by omega) (by omega)) (by (try simp only [aQ,gQ,dA,cO,aO,bD,bL,lm,bI,List.map_nil]);omega)).mono fun v h5 ⟨w5,f5⟩=>?_;have F5:Fix (·<h3.bX) h3 h5:=F4.trans (f5.sub fun b hb=>⟨by omega,.inl hb,by omega⟩);have x5:=f5.bX;have b5:=b3.fix F5;have ob5:=ob3.fix F5 (fun _ h=>h);refine ax ?_;(try simp only [aE,rL,rD,rB,reduceIte,cV,dX,ed,eh,gE,gC,eW,aH,b5.at ty2 rfl,b5.at cM rfl,b5.at ga rfl,b5.at fY rfl,b5.at cD rfl,Sl.lenB ob5.cg ga rfl,Sl.lenB ob5.cb fY rfl,Sl.lenB ob5.cf cD rfl])
 refine dU DX rfl cM rfl rfl ob5.bytes.one.1 ?_;intro h5a l5 n5a f5a;(try simp only [aE,rL,rD,rB,reduceIte,cV,dX,ed,eh,gE,gC,eW,aH,b5.at ty2 rfl,b5.at cM rfl,b5.at ga rfl,b5.at fY rfl,b5.at cD rfl,Sl.lenB ob5.cg ga rfl,Sl.lenB ob5.cb fY rfl,Sl.lenB ob5.cf cD rfl])
 refine (Ho (L:=[(c.bytes,x.bytes)]) (n0:=h3.bX) (q:=wb) w5 (by omega) (by omega) (by omega) f5a l5.sl (pJ (by omega) (by omega)) (fun p hp=>by
   rw [aN.1 hp]
   exact ⟨Sl.fix ob5.bytes ob5.inB (f5a.sub),ob5.inB.sub fun b hb=>⟨by omega,by omega,.inl hb⟩,by show x.bytes.length≤_;omega⟩) (by simp) (by (try simp only [aQ,gQ,dA,cO,aO,bD,bL,lm,bI,List.map_nil]);omega)).mono fun v h6 ⟨w6,f6⟩=>?_
 have F6:Fix (·<h3.bX) h3 h6:=F5.trans (f6.sub fun b hb=>⟨by omega,.inl hb,by omega⟩);have x6:=f6.bX;have b6:=b3.fix F6;have ob6:=ob3.fix F6 (fun _ h=>h);refine ax ?_;(try simp only [aE,rL,rD,rB,reduceIte,cV,dX,ed,eh,gE,gC,eW,aH,b6.at ty2 rfl,b6.at cM rfl,b6.at ga rfl,b6.at fY rfl,b6.at cD rfl,Sl.lenB ob6.cg ga rfl,Sl.lenB ob6.cb fY rfl,Sl.lenB ob6.cf cD rfl]);refine de (cs:=[i64 x.code,i64 x.entry,i64 (x.cg.length:Int)]) (n:=3) ti rfl ty2 rfl (by decide) (by decide) (Dy rfl rfl rfl) rfl ?_
 intro h6a l6 n6a f6a;(try simp only [aE,rL,rD,rB,reduceIte,cV,dX,ed,eh,gE,gC,eW,aH,b6.at ty2 rfl,b6.at cM rfl,b6.at ga rfl,b6.at fY rfl,b6.at cD rfl,Sl.lenB ob6.cg ga rfl,Sl.lenB ob6.cb fY rfl,Sl.lenB ob6.cf cD rfl]);refine (jZ (L:=[x.code,x.entry,(x.cg.length:Int)]) (n0:=h3.bX) (q:=wb) w6 (by omega) (by omega) (by omega) f6a l6.sl (pJ (by omega) (by omega)) (by (try simp only [aQ,gQ,dA,cO,aO,bD,bL,lm,bI,List.map_nil]);omega)).mono fun v h7 ⟨w7,f7⟩=>?_
 have F7:Fix (·<h3.bX) h3 h7:=F6.trans (f7.sub fun b hb=>⟨by omega,.inl hb,by omega⟩);have x7:=f7.bX;have b7:=b3.fix F7;have ob7:=ob3.fix F7 (fun _ h=>h);refine az ?_;generalize hX:sS 1++fT [x.base]++qS [(c.bytes,x.bytes)]++fT [x.code,x.entry,(x.cg.length:Int)]=X at w7;have lX:X.length≤140000:=by rw [←hX];simp only [aQ,gQ,dA,cO,aO,bD,bL,lm,bI,List.map_nil];omega
 refine ap ?_;(try simp only [aE,rL,rD,rB,reduceIte,cV,dX,ed,eh,gE,gC,eW,aH,b7.at ty2 rfl,b7.at cM rfl,b7.at ga rfl,b7.at fY rfl,b7.at cD rfl,Sl.lenB ob7.cg ga rfl,Sl.lenB ob7.cb fY rfl,Sl.lenB ob7.cf cD rfl]);refine ao ?_
 refine WC.while (fun m fr hh=>∃ts i,fr=⟨ts,88,[],20,none⟩∧Fix (·<h3.bX) h3 hh∧m=x.cg.length - i∧i≤x.cg.length∧ts.get 1=some (.ptr h.bX 0)∧ts.get 4=some (.ptr wb 0)∧ts.get 33=some c.cg∧ts.get 34=some (.int .i64 x.cg.length)∧ts.get 35=some (.int .i64 i)∧wb<hh.bX∧Wr g hh (Sx h3.bX hh.bX wb) wb (X++(x.cg.take i).flatMap pr)) ?_ ⟨_,0,rfl,F7,rfl,by omega,?_,?_,?_,?_,?_,by omega,by simpa using w7⟩
 ·rintro m fr hh ⟨ts,i,rfl,ff,rfl,hi,t1,t4,t33,t34,t35,wn,wr⟩
  have xh:=ff.bX;have bh:=b3.fix ff;have obh:=ob3.fix ff (fun _ h=>h);refine ap ?_;(try simp only [aE,rL,rD,rB,reduceIte,t34,t35]);refine aw ?_
  by_cases hlt:i<x.cg.length
  ·refine aG (WC.skip ?_);refine az ?_;have hsl:=sm.ename _ (aP hlt)
   have lY:((x.cg.take i).flatMap pr).length≤80 * x.cg.length:=by
    refine Nat.le_trans (jv (B:=80) fun y hy=>?_) (Nat.mul_le_mul_left _ (by simp;omega));have:=sm.ename y (List.mem_of_mem_take hy);simp only [pr,aQ,dA,cO,aO,bD];omega
   obtain ⟨p,p1,p2⟩:=obh.cg.at (fun _=>rfl) ga rfl rJ rfl (by decide) rfl hlt;have p2:=p2 hh fun _ _ _ _ _=>rfl;refine ao ?_;refine ap ?_;(try simp only [aE,rL,rD,rB,reduceIte,t33,t35,p1,p2]);refine cz rJ ?_;intro h8 b8 n8 f8;refine az ?_;refine cq b8 rJ rfl (by decide) rfl ?_;intro h9 b9 n9 f9;have b9:Has h9 hh.bX [.str x.cg[i].name,i64 x.cg[i].cl]:=b9;have F9:Fix (·<hh.bX) hh h9:=⟨by omega,fun c hc=>by rw [f9.ca c (by omega),f8.ca c (by omega)]⟩
   have w9:Wr g h9 (Sx h3.bX h9.bX hh.bX) wb (X++(x.cg.take i).flatMap pr):=(wr.sub (S':=fun b=>Sx h3.bX h9.bX hh.bX b∧b<hh.bX) fun b hb hs=>⟨⟨hs.1,by omega,by omega⟩,hb⟩).fix F9 wn (fun b _ hs=>hs.2) |>.sub fun b _ hs=>hs.1;refine ax ?_;(try simp only [aE,rL,rD,rB,reduceIte,t4,DA,xH,aH,b9.at ty9 rfl]);refine dU cD rfl ty9 rfl rfl rfl ?_;intro ha la na fa;(try simp only [aE,rL,rD,rB,reduceIte,t4]);refine (tZ (L:=[x.cg[i].name]) (n0:=h3.bX) (q:=hh.bX) w9 (by omega) (by omega) (by omega) fa la.sl (pJ (by omega) (by omega)) (by simp;omega) (by simp) (by simp only [aQ];omega)).mono fun v hb ⟨wb',fb⟩=>?_
   have xb:=fb.bX;have bb:=b9.fix fb;refine ax ?_;(try simp only [aE,rL,rD,rB,reduceIte,t4,DA,xH,aH,bb.at ty2 rfl]);refine dU ti rfl ty2 rfl rfl rfl ?_;intro he le ne fe;(try simp only [aE,rL,rD,rB,reduceIte,t4]);refine (jZ (L:=[x.cg[i].cl]) (n0:=h3.bX) (q:=hh.bX) wb' (by omega) (by omega) (by omega) fe le.sl (pJ (by omega) (by omega)) (by simp only [aQ,dA,aO,bD];omega)).mono fun v hf ⟨wf,ff'⟩=>?_;have xf:=ff'.bX
   refine ax ?_;(try simp only [aE,rL,rD,rB,reduceIte,t35,ct])
   refine ⟨_,?_,_,i+1,rfl,⟨by omega,fun b hb=>?_⟩,rfl,by omega,?_⟩
   ·omega
   ·rw [ff'.ca b ⟨by omega,.inl hb,by omega⟩,fb.ca b ⟨by omega,.inl hb,by omega⟩,F9.ca b (by omega),ff.ca b hb]
   (try simp only [aE,rL,rD,rB,reduceIte,t1,t4,t33,t34])
   refine ⟨aD,aD,aD,aD,?_,by omega,?_⟩
   ·rw [cy (by omega) (by omega)];rfl
   ·rw [pM pr hlt];have:=wf.sub' (S':=Sx h3.bX hf.bX wb) fun b hb hn hs=>⟨hs.1,hb,hn⟩;simpa only [pr,bV] using this
  ·refine aF (WC.exit ?_);have:i=x.cg.length:=by omega
   subst this;rw [bv] at wr;refine az ?_;generalize hY:X++x.cg.flatMap pr=Y at wr
   have lY:Y.length≤1000000:=by
    rw [←hY,aQ]
    have:(x.cg.flatMap pr).length≤80 * x.cg.length:=jv fun y hy=>by
     have:=sm.ename y hy;simp only [pr,aQ,dA,cO,aO,bD];omega
    omega
   have w8:=wr;have F8:=ff;have ob8:=obh;have b8:=bh;refine ap ?_;(try simp only [aE,rL,rD,rB,reduceIte,t1,t4,cV,dX,ed,eh,gE,gC,eW,aH,b8.at ty2 rfl,b8.at cM rfl,b8.at ga rfl,b8.at fY rfl,b8.at cD rfl,Sl.lenB ob8.cg ga rfl,Sl.lenB ob8.cb fY rfl,Sl.lenB ob8.cf cD rfl]);refine dU ti rfl ty2 rfl rfl rfl ?_;intro h8a l8 n8a f8a;(try simp only [aE,rL,rD,rB,reduceIte,t1,t4,cV,dX,ed,eh,gE,gC,eW,aH,b8.at ty2 rfl,b8.at cM rfl,b8.at ga rfl,b8.at fY rfl,b8.at cD rfl,Sl.lenB ob8.cg ga rfl,Sl.lenB ob8.cb fY rfl,Sl.lenB ob8.cf cD rfl])
   refine (jZ (L:=[(x.cb.length:Int)]) (n0:=h3.bX) (q:=wb) w8 (by omega) (by omega) (by omega) f8a l8.sl (pJ (by omega) (by omega)) (by (try simp only [aQ,gQ,dA,cO,aO,bD,bL,lm,bI,List.map_nil]);omega)).mono fun v h9 ⟨w9,f9⟩=>?_;have F9:Fix (·<h3.bX) h3 h9:=F8.trans (f9.sub fun b hb=>⟨by omega,.inl hb,by omega⟩);have x9:=f9.bX;have b9:=b3.fix F9;have ob9:=ob3.fix F9 (fun _ h=>h);refine az ?_;generalize hZ:Y++fT [(x.cb.length:Int)]=Z at w9
   have lZ:Z.length≤1000008:=by rw [←hZ];simp only [aQ,cO,aO,bD];omega
   refine ap ?_;(try simp only [aE,rL,rD,rB,reduceIte,t1,t4,cV,dX,ed,eh,gE,gC,eW,aH,b9.at ty2 rfl,b9.at cM rfl,b9.at ga rfl,b9.at fY rfl,b9.at cD rfl,Sl.lenB ob9.cg ga rfl,Sl.lenB ob9.cb fY rfl,Sl.lenB ob9.cf cD rfl]);refine ao ?_
   refine WC.while (fun m fr hq=>∃ts i,fr=⟨ts,88,[],20,none⟩∧Fix (·<h3.bX) h3 hq∧m=x.cb.length - i∧i≤x.cb.length∧ts.get 1=some (.ptr h.bX 0)∧ts.get 4=some (.ptr wb 0)∧ts.get 57=some c.cb∧ts.get 58=some (.int .i64 x.cb.length)∧ts.get 59=some (.int .i64 i)∧wb<hq.bX∧Wr g hq (Sx h3.bX hq.bX wb) wb (Z++(x.cb.take i).flatMap jW)) ?_ ⟨_,0,rfl,F9,rfl,by omega,?_,?_,?_,?_,?_,by omega,by simpa using w9⟩
   ·rintro m fr hh ⟨ts,i,rfl,ff,rfl,hi,t1,t4,t57,t58,t59,wn,wr⟩
    have xh:=ff.bX;have bh:=b3.fix ff;have obh:=ob3.fix ff (fun _ h=>h);refine ap ?_;(try simp only [aE,rL,rD,rB,reduceIte,t58,t59]);refine aw ?_
    by_cases hlt:i<x.cb.length
    ·refine aG (WC.skip ?_);refine az ?_;have hsl:=sm.sname _ (aP hlt)
     have lY:((x.cb.take i).flatMap jW).length≤88 * x.cb.length:=by
      refine Nat.le_trans (jv (B:=88) fun y hy=>?_) (Nat.mul_le_mul_left _ (by simp;omega));have:=sm.sname y (List.mem_of_mem_take hy);simp only [jW,aQ,dA,cO,aO,bD];omega
     obtain ⟨p,p1,p2⟩:=obh.cb.at (fun _=>rfl) fY rfl lJ rfl (by decide) rfl hlt;have p2:=p2 hh fun _ _ _ _ _=>rfl;refine ao ?_;refine ap ?_;(try simp only [aE,rL,rD,rB,reduceIte,t57,t59,p1,p2]);refine cz lJ ?_;intro h8 b8 n8 f8;refine az ?_;refine cq b8 lJ rfl (by decide) rfl ?_;intro h9 b9 n9 f9;have b9:Has h9 hh.bX [.str x.cb[i].name,i64 x.cb[i].cl,i64 x.cb[i].bound]:=b9;have F9:Fix (·<hh.bX) hh h9:=⟨by omega,fun c hc=>by rw [f9.ca c (by omega),f8.ca c (by omega)]⟩
     have w9:Wr g h9 (Sx h3.bX h9.bX hh.bX) wb (Z++(x.cb.take i).flatMap jW):=(wr.sub (S':=fun b=>Sx h3.bX h9.bX hh.bX b∧b<hh.bX) fun b hb hs=>⟨⟨hs.1,by omega,by omega⟩,hb⟩).fix F9 wn (fun b _ hs=>hs.2) |>.sub fun b _ hs=>hs.1;refine ax ?_;(try simp only [aE,rL,rD,rB,reduceIte,t4,Dz,jB,jS,aH,b9.at ty9 rfl]);refine dU cD rfl ty9 rfl rfl rfl ?_;intro ha la na fa;(try simp only [aE,rL,rD,rB,reduceIte,t4])
     refine (tZ (L:=[x.cb[i].name]) (n0:=h3.bX) (q:=hh.bX) w9 (by omega) (by omega) (by omega) fa la.sl (pJ (by omega) (by omega)) (by simp;omega) (by simp) (by simp only [aQ];omega)).mono fun v hb ⟨wb',fb⟩=>?_;have xb:=fb.bX;have bb:=b9.fix fb;refine ax ?_;(try simp only [aE,rL,rD,rB,reduceIte,t4,Dz,jB,jS,aH,bb.at ty2 rfl]);refine de (cs:=[i64 x.cb[i].cl,i64 x.cb[i].bound]) (n:=2) ti rfl ty2 rfl (by decide) (by decide) (Ji rfl rfl) rfl ?_
     intro he le ne fe;(try simp only [aE,rL,rD,rB,reduceIte,t4]);refine (jZ (L:=[x.cb[i].cl,x.cb[i].bound]) (n0:=h3.bX) (q:=hh.bX) wb' (by omega) (by omega) (by omega) fe le.sl (pJ (by omega) (by omega)) (by simp only [aQ,dA,aO,bD];omega)).mono fun v hf ⟨wf,ff'⟩=>?_;have xf:=ff'.bX;refine ax ?_;(try simp only [aE,rL,rD,rB,reduceIte,t59,ct])
     refine ⟨_,?_,_,i+1,rfl,⟨by omega,fun b hb=>?_⟩,rfl,by omega,?_⟩
     ·omega
     ·rw [ff'.ca b ⟨by omega,.inl hb,by omega⟩,fb.ca b ⟨by omega,.inl hb,by omega⟩,F9.ca b (by omega),ff.ca b hb]
     (try simp only [aE,rL,rD,rB,reduceIte,t1,t4,t57,t58])
     refine ⟨aD,aD,aD,aD,?_,by omega,?_⟩
     ·rw [cy (by omega) (by omega)];rfl
     ·rw [pM jW hlt];have:=wf.sub' (S':=Sx h3.bX hf.bX wb) fun b hb hn hs=>⟨hs.1,hb,hn⟩;simpa only [jW,bV] using this
    ·refine aF (WC.exit ?_);have:i=x.cb.length:=by omega
     subst this;rw [bv] at wr;refine az ?_;generalize hW:Z++x.cb.flatMap jW=W at wr
     have lW:W.length≤2000000:=by
      rw [←hW,aQ]
      have:(x.cb.flatMap jW).length≤88 * x.cb.length:=jv fun y hy=>by
       have:=sm.sname y hy;simp only [jW,aQ,dA,cO,aO,bD];omega
      omega
     have w10:=wr;have F10:=ff;have ob10:=obh;have b10:=bh;refine ap ?_;(try simp only [aE,rL,rD,rB,reduceIte,t1,t4,cV,dX,ed,eh,gE,gC,eW,aH,b10.at ty2 rfl,b10.at cM rfl,b10.at ga rfl,b10.at fY rfl,b10.at cD rfl,Sl.lenB ob10.cg ga rfl,Sl.lenB ob10.cb fY rfl,Sl.lenB ob10.cf cD rfl]);refine dU ti rfl ty2 rfl rfl rfl ?_;intro h10a l10 n10a f10a;(try simp only [aE,rL,rD,rB,reduceIte,t1,t4,cV,dX,ed,eh,gE,gC,eW,aH,b10.at ty2 rfl,b10.at cM rfl,b10.at ga rfl,b10.at fY rfl,b10.at cD rfl,Sl.lenB ob10.cg ga rfl,Sl.lenB ob10.cb fY rfl,Sl.lenB ob10.cf cD rfl])
     refine (jZ (L:=[(x.cf.length:Int)]) (n0:=h3.bX) (q:=wb) w10 (by omega) (by omega) (by omega) f10a l10.sl (pJ (by omega) (by omega)) (by (try simp only [aQ,gQ,dA,cO,aO,bD,bL,lm,bI,List.map_nil]);omega)).mono fun v h11 ⟨w11,f11⟩=>?_;have F11:Fix (·<h3.bX) h3 h11:=F10.trans (f11.sub fun b hb=>⟨by omega,.inl hb,by omega⟩);have x11:=f11.bX;have b11:=b3.fix F11;have ob11:=ob3.fix F11 (fun _ h=>h);refine ax ?_
     (try simp only [aE,rL,rD,rB,reduceIte,t1,t4,cV,dX,ed,eh,gE,gC,eW,aH,b11.at ty2 rfl,b11.at cM rfl,b11.at ga rfl,b11.at fY rfl,b11.at cD rfl,Sl.lenB ob11.cg ga rfl,Sl.lenB ob11.cb fY rfl,Sl.lenB ob11.cf cD rfl]);refine (tZ (L:=x.cf) (n0:=h3.bX) (q:=wb) w11 (by omega) (by omega) (by omega) (Fix.refl _ _) ob11.cf (ob11.inN.sub fun b hb=>⟨by omega,by omega,.inl hb⟩) (fun p hp=>by have:=sm.nname p hp;omega) (by omega) (by simp only [aQ,dA,cO,aO,bD,bL];omega)).mono fun v h12 ⟨w12,f12⟩=>?_
     have F12:Fix (·<h3.bX) h3 h12:=F11.trans (f12.sub fun b hb=>⟨by omega,.inl hb,by omega⟩);have x12:=f12.bX;refine az ?_;have lT:(iz x.cf).length≤72 * x.cf.length:=nO (B:=64) fun p hp=>sm.nname p hp;refine ap ?_;(try simp only [aE,rL,rD,rB,reduceIte,t4]);refine (Gb w12 (by omega) (by simp only [aQ,dA,cO,aO,bD,bL];omega)).mono fun v hz ⟨z1,z2,z3⟩=>?_;have xz:=z3.bX;refine az ?_;refine WC.ret ?_;refine az ?_
     refine ⟨⟨by omega,fun b hb=>?_⟩,fun q=>(by cases q),fun _=>⟨_,rfl,?_,z2.sub⟩⟩
     ·rw [z3.ca b ⟨by omega,by omega⟩,F12.ca b (by omega),f3.ca b (by omega),f1.ca b hb]
     ·rw [←hW,←hZ,←hY,←hX] at z1;have e2:qS [(c.bytes,x.bytes)]=iz [x.bytes]:=lm _;rw [e2] at z1;exact z1
   all_goals (try simp only [aE,rL,rD,rB,reduceIte,t1,t4])
   all_goals (first|trivial|rfl|simp)
 all_goals (try simp only [aE,rL,rD,rB,reduceIte])
 all_goals (first|trivial|rfl|simp)
theorem BM (n:Int):fT [n]=leB (U n) 8:=by simp [fT]
theorem kM {h:H} {s:V} {xs:List UInt8} {n:Int} (hb:nM g h s xs) (hlow:In (·<h.bX) s) (hlen:xs.length≤2^39) :
  WF (E g) 59 [s,.int .i64 n] h fun v h'=>lq g h s h' v (xs++fT [n]):=by
 refine WF.enter fn59 rfl ?_;refine au ?_;refine au ?_;refine (uh (k:=8) hb hlow (by omega) hlen).mono fun v h' gr=>?_;refine az ?_;refine WC.ret ?_;refine az ?_;rw [BM];exact gr
theorem vx {h:H} {s:V} {xs t:List UInt8} (hb:nM g h s xs) (hlow:In (·<h.bX) s) (hlen:xs.length≤2^38) (ht:t.length≤2^38) :
  WF (E g) 60 [s,.str t] h fun v h'=>lq g h s h' v (xs++iz [t]):=by
 refine WF.enter fn60 rfl ?_;refine au ?_;refine ap ?_;(try simp only [aE,rL,rD,rB,reduceIte,gT]);refine (kM (n:=(t.length:Int)) hb hlow (by omega)).mono fun v h1 gr=>?_;refine az ?_
 refine ye (ys:=t) gr ty9 (.inr rfl) rfl ?_ (by simp [cO];omega) ?_
 ·simp only [cX,show Nat.beq 1 1=true from rfl,cond_true,bv];rfl
 ·intro s' h2 gr2 _;refine az ?_;refine WC.ret ?_;refine az ?_;have e:xs++fT [(t.length:Int)]++t=xs++iz [t]:=by simp [BM,iz,Fx (show t.length<18446744073709551616 by omega)]
  rw [←e];exact gr2
theorem Hf {a b c d z:V} (ha:a.cells=[a]) (hb:b.cells=[b]) (hc:c.cells=[c]) (hd:d.cells=[d]):cW (fun k=>some (k * 1,1)) (j8 [z] 4) [(0,a),(1,b),(2,c),(3,d)]=some [a,b,c,d]:=by
 simp [cW,j8,ha,hb,hc,hd,se];rfl
theorem _root_.Go.Ev.Grew.keeps {E:Env} {e sz n:Nat} {h h':H} {s s':V} {vs:List V} (G:Grew E e sz h s h' s' n vs) {b:Nat} {cs:List V} (a:Has h b cs) (hb:b<h.bX) (hs:In (·≠b) s):Has h' b cs :=
 a.fix G.fix ⟨hb,fun o m cc q=>hs _ _ _ _ q rfl⟩
theorem Ob.grew {h h':H} {e sz n n0:Nat} {s s':V} {vs:List V} {c:Oc} {o:ObjD} (a:Ob g h (·<n0) c o) (G:Grew (E g) e sz h s h' s' n vs) (hn:n0≤h.bX) (hs:In (fun b=>n0≤b) s):Ob g h' (·<n0) c o :=
 a.fix G.fix fun b hb=>⟨by omega,fun o m cc q=>by have:=hs _ _ _ _ q;omega⟩
end Go.Proofs.OP
