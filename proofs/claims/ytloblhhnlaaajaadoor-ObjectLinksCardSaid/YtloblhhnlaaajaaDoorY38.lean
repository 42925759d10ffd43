/- Walks: (*linker).finish. Printed by genL8.py. -/
import Derived.Test.YtloblhhnlaaajaaDoorY37
set_option maxHeartbeats 32000000
set_option maxRecDepth 100000
set_option linter.unusedVariables false
set_option linter.unusedSimpArgs false
set_option linter.defProp false
namespace Go.Proofs.OP
open Go Go.Ev
open Go.Proofs
open Nat renaming reduceLT → rL, reduceEqDiff → rD, reduceBEq → rB
variable {g : T (List V)}
def jC (D:Dm) (K:List (List UInt8)):List ExpD:=K.map fun k=>⟨k,((al k D).getD zGl).cl⟩
def fE (D:Dm) (S:St) (K:List (List UInt8)):List SlotD:=K.map fun k=>⟨k,(al k S).getD 0,((al k D).getD zGl).cl⟩
def sZ (base:Int):List SlotD→List UInt8→List UInt8
 | [],bs=>bs
 | s::r,bs=>sZ base r (er bs (s.cl - base).toNat (leB (U s.bound) 8))
def AD:List (List UInt8)→List (List UInt8)→List (List UInt8)
 | [],N=>N
 | s::r,N=>AD r (if N.contains s then N else N++[s])
def gy:List ObjD→List (List UInt8)→List (List UInt8)
 | [],N=>N
 | o::r,N=>gy r (AD o.cf N)
theorem Ft {n:List UInt8} {a:Int}:dY (E g) 41 [(0,.str n),(1,.int .i64 a)]=some (.agg (nk ⟨n,a⟩)):=by
 simp only [dY,rJ,cW,nth,cL ty9,cL ty2,List.all_cons,List.all_nil,ty9,ty2,bF,Bool.and_true,aV,cond_false]
 rfl
theorem bld43 {n:List UInt8} {a b:Int}:dY (E g) 43 [(0,.str n),(1,.int .i64 a),(2,.int .i64 b)]=some (.agg (fU ⟨n,a,b⟩)):=by
 simp only [dY,lJ,cW,nth,cL ty9,cL ty2,List.all_cons,List.all_nil,ty9,ty2,bF,Bool.and_true,aV,cond_false]
 rfl
theorem qX {α:Type} {f:α→List V} {L:List α} {j:Nat} (hj:j<L.length):(L.take (j+1)).flatMap f=(L.take j).flatMap f++f L[j]:=by
 rw [bW hj,zu]
theorem rn {s s':V} {h7:Nat} {lo hi:Nat} (sin:In (fun b=>lo≤b∧b<hi) s) (o8:∀b o k c,s'=.slice b o k c→b=h7∨∃o k c,s=.slice b o k c) (h1:lo≤h7) {hi':Nat} (i8:In (·<hi') s'):In (fun b=>lo≤b∧b<hi') s':=by
 refine fun b o n c e=>⟨?_,i8 _ _ _ _ e⟩
 rcases o8 _ _ _ _ e with q|⟨o,k,c,q⟩
 ·omega
 ·exact (sin _ _ _ _ q).1
theorem He {n0 kb db sb stb bb N:Nat} {h:H} {ls:V} {L:List (Oc×ObjD)} {base code entry:Int} {D:Dm} {S:St} {bs0:List UInt8} (hn0:n0≤h.bX) (a:Obs g h (·<n0) ls L) (fL:∀p∈L,p.2.cf.length≤2^20)
  (m:LkM g h kb db sb stb ls L.length (L.map (·.2)) base D S (imV base bb N code entry .nils .nils .nils)) (z:Lsz (L.map (·.2)) base L.length) (k0:n0≤kb) (b0:n0≤bb) (hbb:bb<h.bX) (bk:bb≠kb) (bd:bb≠db) (bsb:bb≠sb) (bst:bb≠stb) (dk:db≠kb) (sk:sb≠kb) (tk:stb≠kb)
  (bb0:At h bb 0 (bs0.map u8)) (l0:bs0.length=N) (hN:N≤2^30) (nD:(D.map (·.1)).Nodup) (lD:D.length≤2^20) (kD:∀p∈D,p.1.length≤2^20) (nS:(S.map (·.1)).Nodup) (lS:S.length≤2^20) (kS:∀p∈S,p.1.length≤2^20)
  (gS:∀k∈dK (S.map (·.1)),∃l:Nat,(al k S).getD 0=base+l∧l+8≤N) :
  WF (E g) 37 [.ptr kb 0] h fun _ h'=>Fix (fun b=>b<h.bX∧b≠kb∧b≠bb) h h'∧∃ex sl nd,Has h' kb (lkV ls base (.slice stb 0 L.length (.lit L.length)) db sb (imV base bb N code entry ex sl nd)) ∧
   Im g h' (fun b=>b<h'.bX∧(b=bb∨h.bX≤b)) ⟨.slice bb 0 N (.lit N),ex,sl,nd⟩ ⟨base,sZ base (fE D S (dK (S.map (·.1)))) bs0,code,entry,jC D (dK (D.map (·.1))),fE D S (dK (S.map (·.1))),gy (L.map (·.2)) []⟩:=by
 have hb0:=z.bas.pos;have hb1:=z.bas.most;have lL:=z.few;have kn:=m.kn;have dn:=m.dn;have sn:=m.sn;have tn:=m.tn;generalize hos:L.map (·.2)=os at *;refine WF.enter fn37 rfl ?_;refine ap ?_;(try simp only [aE,rL,rD,rB,reduceIte,fI,aH,m.bk.at eE rfl]);refine (GX).mono fun v h1 ⟨e1,b1,n1,f1⟩=>?_;subst e1;refine az ?_;refine (ua (.inr rfl) b1 (m.md.fix f1) nD (by omega) (fun p hp=>by have:=kD p hp;omega)).mono fun v h2 ⟨bf2,in2,f2⟩=>?_
 have x2:=f2.bX;have ss2:=zQ bf2 (jV D);have F2:cH h h2:=⟨by omega,fun b hb=>by rw [f2.ca b (by omega),f1.ca b hb]⟩;have m2:=m.kept F2;have bb2:=bb0.fix F2;have a2:=a.fix F2;have hlK:=jV D;generalize hK:dK (D.map (·.1))=K at *;(try simp only [aE,rL,rD,rB,reduceIte,Sl.lenB ss2 cD rfl]);refine ao ?_
 refine WC.while (fun mm fr hj=>∃ts j ex,fr=⟨ts,125,[],37,none⟩∧Fix (fun b=>b<h2.bX∧b≠kb) h2 hj∧mm=K.length - j∧j≤K.length∧ts.get 0=some (.ptr kb 0)∧ts.get 16=some v∧ts.get 17=some (.int .i64 K.length)∧ts.get 18=some (.int .i64 j)∧LkM g hj kb db sb stb ls L.length os base D S (imV base bb N code entry ex .nils .nils)∧Buf (E g) hj 41 2 ex j (((jC D K).take j).flatMap nk)∧In (fun b=>h2.bX≤b∧b<hj.bX) ex) ?_ ⟨_,0,.nils,rfl,Fix.refl _ _,rfl,by omega,?_,?_,?_,?_,m2,Buf.nil,In.nils⟩
 ·rintro mm fr hj ⟨ts,j,ex,rfl,fj,rfl,hjl,t0,t16,t17,t18,mj,bfj,inj⟩
  have xj:=fj.bX;have ssj:Ss g hj v K:=Sl.fix ss2 (in2.sub fun b hb=>⟨hb.2,by omega⟩) fj;refine ap ?_;(try simp only [aE,rL,rD,rB,reduceIte,t17,t18]);refine aw ?_
  by_cases hlj:j<K.length
  ·refine aG (WC.skip ?_);refine az ?_;obtain ⟨p,p1,p2⟩:=ssj.at cD rfl ty9 rfl rfl hlj;have p2:=p2 hj fun _ _ _ _ _=>rfl;have lk1:=sj (E:=E g) (z:=zGl) (k:=K[j]) mj.md eE rfl ty9 rfl gz rfl;have hX:(jC D K)[j]'(by simpa [jC] using hlj)=⟨K[j],((al K[j] D).getD zGl).cl⟩:=by simp [jC]
   refine ao ?_;refine ap ?_;(try simp only [aE,rL,rD,rB,reduceIte,t16,t18,p1,p2])
   ((repeat refine WC.seq ?_);refine WC.draw (plans:=ID) (by kernel_rfl) ?_;simp only [ID,ak])
   (try simp (maxSteps:=2000000) only [aE,rL,rD,rB,reduceIte,af,Chk,t0,fI,dF,gE,aH,mj.bk.at ga rfl,mj.bk.at eE rfl,fP,dj,lk1,oK,i64,Ft]);refine de (cs:=nk ⟨K[j],((al K[j] D).getD zGl).cl⟩) ga rfl rJ rfl (by decide) (by decide) (fill2 (lj _)) rfl ?_;intro h7 bl n7 f7;have m7:=mj.kept f7;have lk7:=sj (E:=E g) (z:=zGl) (k:=K[j]) m7.md eE rfl ty9 rfl gz rfl;have bf7:=bfj.fix (K:=(·<hj.bX)) (inj.sub fun b hb=>hb.2) f7
   (try simp (maxSteps:=2000000) only [aE,rL,rD,rB,reduceIte,af,Chk,t0,fI,dF,gE,aH,m7.bk.at ga rfl,m7.bk.at eE rfl,fP,dj,lk7,oK,i64,Ft]);refine df (m:=1) (ws:=nk ⟨K[j],((al K[j] D).getD zGl).cl⟩) bf7 ga rfl ga (.inl ⟨_,rfl⟩) rJ rfl (by decide) (by decide) (Sl.len bl.sl) (Sl.cells bl.sl) rfl (Ci _) (show (j+1) * 24≤140737488355328 by omega) (inj.sub) ?_;intro s' h8 bf8 i8 o8 f8;have x8:=f8.bX;have m8:=m7.fix f8 ⟨by omega,fun o k cc e=>by have:=inj _ _ _ _ e;omega⟩ ⟨by omega,fun o k cc e=>by have:=inj _ _ _ _ e;omega⟩ ⟨by omega,fun o k cc e=>by have:=inj _ _ _ _ e;omega⟩ ⟨by omega,fun o k cc e=>by have:=inj _ _ _ _ e;omega⟩
   have lk8:=sj (E:=E g) (z:=zGl) (k:=K[j]) m8.md eE rfl ty9 rfl gz rfl;(try simp (maxSteps:=2000000) only [aE,rL,rD,rB,reduceIte,af,Chk,t0,fI,dF,gE,aH,m8.bk.at ga rfl,m8.bk.at eE rfl,fP,dj,lk8,oK,i64,Ft]);have one8:s'.cells=[s']∧s'.one=true:=Sl.one bf8.sl;refine cq m8.bk ga (by rw [one8.1];rfl) (show 5+4+1≤12 by decide) (by rw [one8.1];simp [one8.2]) ?_;intro h9 b9 n9 f9;rw [one8.1] at b9;have m9:=m8.put (im':=imV base bb N code entry s' .nils .nils) f9 b9 dk sk tk
   have lk9:=sj (E:=E g) (z:=zGl) (k:=K[j]) m9.md eE rfl ty9 rfl gz rfl;have in8:=rn (hi:=hj.bX) inj o8 (by omega) i8;(try simp (maxSteps:=2000000) only [aE,rL,rD,rB,reduceIte,af,Chk,t0,fI,dF,gE,aH,m9.bk.at ga rfl,m9.bk.at eE rfl,fP,dj,lk9,oK,i64,Ft]);refine ap ?_;(try simp only [aE,rL,rD,rB,reduceIte,t18,ct])
   refine ⟨_,?_,_,j+1,s',rfl,⟨by omega,fun b hb=>by rw [f9.ca b hb.2,f8.ca b ⟨by omega,fun o k cc e=>by have:=inj _ _ _ _ e;omega⟩,f7.ca b (by omega),fj.ca b hb]⟩,rfl,by omega,?_⟩
   ·omega
   (try simp only [aE,rL,rD,rB,reduceIte,t0,t16,t17])
   refine ⟨aD,aD,aD,?_,m9,?_,in8.sub⟩
   ·rw [cy (by omega) (by omega)];rfl
   ·rw [qX (by simpa [jC] using hlj),hX];exact bf8.fix (K:=(·≠kb)) (in8.sub) f9
  ·refine aF (WC.exit ?_);have:j=K.length:=by omega
   subst this;have hXl:(jC D K).length=K.length:=by simp [jC]
   rw [bT (by omega)] at bfj;have FX:Fix (fun b=>b<h.bX∧b≠kb) h hj:=⟨by omega,fun b hb=>by rw [fj.ca b ⟨by omega,hb.2⟩,F2.ca b hb.1]⟩;have aX:=a2.fix fj;have bbX:=bb2.fix fj ⟨by omega,bk⟩;have exs:Sl (E g) hj 2 ex (jC D K).length ((jC D K).flatMap nk):=by rw [hXl];exact bfj.sl
   refine ax ?_;(try simp only [aE,rL,rD,rB,reduceIte,t0,oq,aH,mj.bk.at ld rfl]);refine (zl).mono fun v3 h3 ⟨e3,b3,n3,f3⟩=>?_;subst e3;refine az ?_;refine (ua (.inl rfl) b3 (mj.ms.fix f3 (by have:=mj.sn;omega)) nS (by omega) (fun p hp=>by have:=kS p hp;omega)).mono fun v3 h4 ⟨bf4,in4,f4⟩=>?_;have x4:=f4.bX;have ss4:=zQ bf4 (jV S);have F4:cH hj h4:=⟨by omega,fun b hb=>by rw [f4.ca b (by omega),f3.ca b hb]⟩
   have m4:=mj.kept F4;have bb4:=bbX.fix F4;have a4:=aX.fix F4;have ex4:=Sl.fix exs (inj.sub fun b hb=>hb.2) F4;have hlM:=jV S;generalize hM:dK (S.map (·.1))=M at *;have hYl:(fE D S M).length=M.length:=by simp [fE]
   (try simp only [aE,rL,rD,rB,reduceIte,Sl.lenB ss4 cD rfl]);refine ao ?_
   refine WC.while (fun mm fr hq=>∃ts j sl bs,fr=⟨ts,125,[],37,none⟩∧Fix (fun b=>b<h4.bX∧b≠kb∧b≠bb) h4 hq∧mm=M.length - j∧j≤M.length∧ts.get 0=some (.ptr kb 0)∧ts.get 48=some v3∧ts.get 49=some (.int .i64 M.length)∧ts.get 50=some (.int .i64 j)∧LkM g hq kb db sb stb ls L.length os base D S (imV base bb N code entry ex sl .nils)∧Buf (E g) hq 43 3 sl j (((fE D S M).take j).flatMap fU)∧In (fun b=>h4.bX≤b∧b<hq.bX) sl∧At hq bb 0 (bs.map u8)∧bs.length=N∧sZ base ((fE D S M).drop j) bs=sZ base (fE D S M) bs0) ?_ ⟨_,0,.nils,bs0,rfl,Fix.refl _ _,rfl,by omega,?_,?_,?_,?_,m4,Buf.nil,In.nils,bb4,l0,rfl⟩
   ·rintro mm fr hq ⟨ts,j,sl,bs,rfl,fq,rfl,hjl,t0,t48,t49,t50,mq,bfq,inq,bbq,lbs,hB⟩
    have xq:=fq.bX;have ssq:Ss g hq v3 M:=Sl.fix ss4 (in4.sub fun b hb=>⟨hb.2,by omega,by omega⟩) fq;refine ap ?_;(try simp only [aE,rL,rD,rB,reduceIte,t49,t50]);refine aw ?_
    by_cases hlj:j<M.length
    ·refine aG (WC.skip ?_);refine az ?_;obtain ⟨p,p1,p2⟩:=ssq.at cD rfl ty9 rfl rfl hlj;have p2:=p2 hq fun _ _ _ _ _=>rfl;have lk1:=sj (E:=E g) (z:=zGl) (k:=M[j]) mq.md eE rfl ty9 rfl gz rfl;have lo1:=sj (E:=E g) (z:=(0:Int)) (k:=M[j]) mq.ms ld rfl ty9 rfl ty2 rfl;obtain ⟨l,hl1,hl2⟩:=gS _ (aP hlj);have hX:(fE D S M)[j]'(by omega)=⟨M[j],(al M[j] S).getD 0,((al M[j] D).getD zGl).cl⟩:=by simp [fE]
     rw [da (by omega),hX] at hB;generalize hY:(⟨M[j],(al M[j] S).getD 0,((al M[j] D).getD zGl).cl⟩:SlotD)=Y at hX hB;simp only [sZ] at hB;have hYa:Y.cl=base+l:=by rw [←hY];exact hl1
     have hYt:(Y.cl - base).toNat=l:=by omega
     rw [hYt] at hB;have hYv:fU Y=[.str M[j],i64 ((al M[j] S).getD 0),i64 ((al M[j] D).getD zGl).cl]:=by rw [←hY];rfl
     have bY:dY (E g) 43 [(0,.str M[j]),(1,.int .i64 ((al M[j] S).getD 0)),(2,.int .i64 ((al M[j] D).getD zGl).cl)]=some (.agg (fU Y)):=by rw [←hY];exact bld43
     refine ao ?_;refine ap ?_;(try simp only [aE,rL,rD,rB,reduceIte,t48,t50,p1,p2])
     ((repeat refine WC.seq ?_);refine WC.draw (plans:=IC) (by kernel_rfl) ?_;simp only [IC,ak])
     (try simp (maxSteps:=2000000) only [aE,rL,rD,rB,reduceIte,af,Chk,t0,fI,oq,aH,mq.bk.at ld rfl,mq.bk.at eE rfl,fP,dj,lk1,lo1,oK,i64,bY]);refine cz lJ ?_;intro h5 b5 n5 f5;have m5:=mq.kept f5;have lk5:=sj (E:=E g) (z:=zGl) (k:=M[j]) m5.md eE rfl ty9 rfl gz rfl;have lo5:=sj (E:=E g) (z:=(0:Int)) (k:=M[j]) m5.ms ld rfl ty9 rfl ty2 rfl;(try simp (maxSteps:=2000000) only [aE,rL,rD,rB,reduceIte,af,Chk,t0,fI,oq,aH,m5.bk.at ld rfl,m5.bk.at eE rfl,fP,dj,lk5,lo5,oK,i64,bY])
     refine cq b5 lJ rfl (aI 3) (ub Y) ?_;intro h6 b6 n6 f6;have b6:Has h6 hq.bX (fU Y):=b6;have F6:cH hq h6:=⟨by omega,fun b hb=>by rw [f6.ca b (by omega),f5.ca b hb]⟩;have m6:=mq.kept F6;have lk6:=sj (E:=E g) (z:=zGl) (k:=M[j]) m6.md eE rfl ty9 rfl gz rfl;have lo6:=sj (E:=E g) (z:=(0:Int)) (k:=M[j]) m6.ms ld rfl ty9 rfl ty2 rfl;have l6:cx (E g) h6 43 (.ptr hq.bX 0)=some (.agg (fU Y)):=b6.agg lJ rfl (aI 3)
     have bb6:=bbq.fix F6;have kn6:=m6.kn;(try simp (maxSteps:=2000000) only [aE,rL,rD,rB,reduceIte,af,Chk,t0,fI,oq,aH,m6.bk.at ld rfl,m6.bk.at eE rfl,fP,dj,lk6,lo6,oK,i64,bY])
     have ac:At h6 kb 5 [i64 base,.slice bb 0 N (.lit N),i64 code,i64 entry,ex,sl,.nils]:=by
      have:=m6.bk.at0.part (p:=5) (q:=7) (show 5+7≤12 by decide);exact this
     ((repeat refine WC.seq ?_);refine WC.draw (plans:=IB) (by kernel_rfl) ?_;simp only [IB,ak])
     (try simp (maxSteps:=2000000) only [aE,rL,rD,rB,reduceIte,af,Chk,t0,dF,aH,l6]);refine (bind_ok (c:=⟨.slice bb 0 N (.lit N),ex,sl,.nils⟩) (x:=⟨base,bs,code,entry,[],[],[]⟩) (s:=Y) (l:=l) ac kn6 (show V.slice bb 0 N (.lit N)=.slice bb 0 bs.length (.lit N) by rw [lbs]) (.inl (show Cp.lit N=.lit bs.length by rw [lbs])) bb6 (by omega) (show IntKind.i64.wrap (Y.cl - base)=(l:Int) by rw [cy (by omega) (by omega)];omega) (show l+8≤bs.length by omega)).mono fun vb h7 ⟨a7,f7⟩=>?_
     have a7:At h7 bb 0 ((er bs l (leB (U Y.bound) 8)).map u8):=a7;have x7:=f7.bX;have l7b:(er bs l (leB (U Y.bound) 8)).length=N:=by rw [dP (by rw [dw];omega),lbs]
     have dn6:=m6.dn;have sn6:=m6.sn;have tn6:=m6.tn;have m7:=m6.fix f7 ⟨by omega,by omega⟩ ⟨by omega,by omega⟩ ⟨by omega,by omega⟩ ⟨by omega,by omega⟩;have b7:=b6.fix f7 ⟨by omega,by omega⟩;have l7:cx (E g) h7 43 (.ptr hq.bX 0)=some (.agg (fU Y)):=b7.agg lJ rfl (aI 3);(try simp (maxSteps:=2000000) only [aE,rL,rD,rB,reduceIte,af,Chk,t0,dF,aH,l7])
     ((repeat refine WC.seq ?_);refine WC.draw (plans:=Ek) (by kernel_rfl) ?_;simp only [Ek,ak])
     (try simp (maxSteps:=2000000) only [aE,rL,rD,rB,reduceIte,af,Chk,t0,dF,gC,aH,m7.bk.at fY rfl,l7]);refine de (cs:=fU Y) fY rfl lJ rfl (by decide) (by decide) (fill3 (iE _)) rfl ?_;intro h8 bl n8 f8;have m8:=m7.kept f8;have b8:=b7.fix f8;have l8:cx (E g) h8 43 (.ptr hq.bX 0)=some (.agg (fU Y)):=b8.agg lJ rfl (aI 3);have bf8:=((bfq.fix (K:=(·<hq.bX)) (inq.sub fun b hb=>hb.2) F6).fix (K:=fun b=>b<h6.bX∧b≠bb) (inq.sub fun b hb=>⟨by omega,by omega⟩) f7).fix (K:=(·<h7.bX)) (inq.sub) f8
     (try simp (maxSteps:=2000000) only [aE,rL,rD,rB,reduceIte,af,Chk,t0,dF,gC,aH,m8.bk.at fY rfl,l8]);refine df (m:=1) (ws:=fU Y) bf8 fY rfl fY (.inl ⟨_,rfl⟩) lJ rfl (by decide) (by decide) (Sl.len bl.sl) (Sl.cells bl.sl) rfl (ub _) (show (j+1) * 32≤140737488355328 by omega) (inq.sub) ?_;intro s' h9 bf9 i9 o9 f9;have x9:=f9.bX;have m9:=m8.fix f9 ⟨by omega,fun o k cc e=>by have:=inq _ _ _ _ e;omega⟩ ⟨by omega,fun o k cc e=>by have:=inq _ _ _ _ e;omega⟩ ⟨by omega,fun o k cc e=>by have:=inq _ _ _ _ e;omega⟩ ⟨by omega,fun o k cc e=>by have:=inq _ _ _ _ e;omega⟩
     have b9:=b8.fix f9 ⟨by omega,fun o k cc e=>by have:=inq _ _ _ _ e;omega⟩;have l9:cx (E g) h9 43 (.ptr hq.bX 0)=some (.agg (fU Y)):=b9.agg lJ rfl (aI 3);(try simp (maxSteps:=2000000) only [aE,rL,rD,rB,reduceIte,af,Chk,t0,dF,gC,aH,m9.bk.at fY rfl,l9]);have one9:s'.cells=[s']∧s'.one=true:=Sl.one bf9.sl;refine cq m9.bk fY (by rw [one9.1];rfl) (show 5+5+1≤12 by decide) (by rw [one9.1];simp [one9.2]) ?_
     intro hA bA nA fA;rw [one9.1] at bA;have mA:=m9.put (im':=imV base bb N code entry ex s' .nils) fA bA dk sk tk;have cA:=b9.fix fA;have lA:cx (E g) hA 43 (.ptr hq.bX 0)=some (.agg (fU Y)):=cA.agg lJ rfl (aI 3);have in9:=rn (hi:=hq.bX) inq o9 (by omega) i9;(try simp (maxSteps:=2000000) only [aE,rL,rD,rB,reduceIte,af,Chk,t0,dF,gC,aH,mA.bk.at fY rfl,lA]);refine ap ?_;(try simp only [aE,rL,rD,rB,reduceIte,t50,ct])
     refine ⟨_,?_,_,j+1,s',er bs l (leB (U Y.bound) 8),rfl,⟨by omega,fun b hb=>by rw [fA.ca b hb.2.1,f9.ca b ⟨by omega,fun o k cc e=>by have:=inq _ _ _ _ e;omega⟩,f8.ca b (by omega),f7.ca b ⟨by omega,hb.2.2⟩,F6.ca b (by omega),fq.ca b hb]⟩,rfl,by omega,?_⟩
     ·omega
     (try simp only [aE,rL,rD,rB,reduceIte,t0,t48,t49])
     refine ⟨aD,aD,aD,?_,mA,?_,in9.sub,((a7.fix f8).fix f9 ⟨by omega,fun o k cc e=>by have:=inq _ _ _ _ e;omega⟩).fix fA bk,l7b,hB⟩
     ·rw [cy (by omega) (by omega)];rfl
     ·rw [qX (by omega),hX];exact bf9.fix (K:=(·≠kb)) (in9.sub) fA
    ·refine aF (WC.exit ?_);have:j=M.length:=by omega
     subst this;rw [bT (by omega)] at bfq;rw [bK (by omega)] at hB;simp only [sZ] at hB;have FY:Fix (fun b=>b<h.bX∧b≠kb∧b≠bb) h hq:=⟨by omega,fun b hb=>by rw [fq.ca b ⟨by omega,hb.2.1,hb.2.2⟩,F4.ca b (by omega),FX.ca b ⟨hb.1,hb.2.1⟩]⟩;have aY:=a4.fix fq fun b hb=>⟨by omega,by omega,by omega⟩;have exY:=Sl.fix ex4 (inj.sub fun b hb=>⟨by omega,by omega,by omega⟩) fq;have slY:Sl (E g) hq 3 sl (fE D S M).length ((fE D S M).flatMap fU):=by rw [hYl];exact bfq.sl
     (try simp only [aE,rL,rD,rB,reduceIte,nb2]);refine ap ?_;(try simp only [aE,rL,rD,rB,reduceIte,t0,lV,aH,mq.bk.at jr rfl,Sl.lenB aY.sl jr rfl]);refine ao ?_
     refine WC.while (fun mm fr hr=>∃ts i nd Ns,fr=⟨ts,125,[],37,none⟩∧Fix (fun b=>b<hq.bX∧b≠kb) hq hr∧mm=L.length - i∧i≤L.length∧ts.get 0=some (.ptr kb 0)∧ts.get 90=some ls∧ts.get 91=some (.int .i64 L.length)∧ts.get 92=some (.int .i64 i)∧LkM g hr kb db sb stb ls L.length os base D S (imV base bb N code entry ex sl nd)∧Buf (E g) hr 9 1 nd Ns.length (Ns.map V.str)∧In (fun b=>hq.bX≤b∧b<hr.bX) nd∧Ns.length≤i * 2^20∧gy (os.drop i) Ns=gy os []) ?_ ⟨_,0,.nils,[],rfl,Fix.refl _ _,rfl,by omega,?_,?_,?_,?_,mq,Buf.nil,In.nils,by simp,rfl⟩
     ·rintro mm fr hr ⟨ts,i,nd,Ns,rfl,fr1,rfl,hil,t0,t90,t91,t92,mr,bfr,inr,lNs,hNs⟩
      have xr:=fr1.bX;have ar:=aY.fix fr1 fun b hb=>⟨by omega,by omega⟩;refine ap ?_;(try simp only [aE,rL,rD,rB,reduceIte,t91,t92]);refine aw ?_
      by_cases hli:i<L.length
      ·refine aG (WC.skip ?_);refine az ?_;obtain ⟨p,p1,p2⟩:=ar.sl.at (fun _=>rfl) jr rfl iq rfl (by decide) rfl hli;have p2:=p2 hr fun _ _ _ _ _=>rfl;have obi:=ar.ob _ (aP hli);have hnl:=fL _ (aP hli);have hoi:os[i]'(by rw [z.len];exact hli)=L[i].2:=by subst hos;simp
       rw [da (by rw [z.len];exact hli),hoi] at hNs;simp only [gy] at hNs;refine ao ?_;refine ap ?_;(try simp only [aE,rL,rD,rB,reduceIte,t90,t92,p1,p2]);refine cz iq ?_;intro hb4 b4' n4' f4';refine az ?_;refine cq b4' iq rfl (aI 7) (Oc.one obi) ?_;intro hb5 b5 n5 f5;have b5:Has hb5 hr.bX [.str L[i].2.name,L[i].1.code,L[i].1.data,L[i].1.ce,L[i].1.ci,L[i].1.cf,.str L[i].2.entry]:=b5;have F5:cH hr hb5:=⟨by omega,fun b hb=>by rw [f5.ca b (by omega),f4'.ca b hb]⟩
       have ob5:=obi.fix F5;have m5:=mr.kept F5;have bf5:=bfr.fix (K:=(·<hr.bX)) (inr.sub fun b hb=>hb.2) F5;have l5:cx (E g) hb5 30 (.ptr hr.bX 5)=some L[i].1.cf:=b5.at cD rfl 5;refine ax ?_;(try simp only [aE,rL,rD,rB,reduceIte,An,aH,l5,Sl.lenB ob5.cf cD rfl]);refine ao ?_
       refine WC.while (fun mm fr hs=>∃ts j nd Nt,fr=⟨ts,125,[],37,none⟩∧Fix (fun b=>b<hq.bX∧b≠kb) hq hs∧hb5.bX≤hs.bX∧mm=L[i].2.cf.length - j∧j≤L[i].2.cf.length∧ts.get 0=some (.ptr kb 0)∧ts.get 90=some ls∧ts.get 91=some (.int .i64 L.length)∧ts.get 92=some (.int .i64 i)∧ts.get 97=some L[i].1.cf∧ts.get 98=some (.int .i64 L[i].2.cf.length)∧ts.get 99=some (.int .i64 j)∧LkM g hs kb db sb stb ls L.length os base D S (imV base bb N code entry ex sl nd)∧Buf (E g) hs 9 1 nd Nt.length (Nt.map V.str)∧In (fun b=>hq.bX≤b∧b<hs.bX) nd∧Nt.length≤Ns.length+j∧AD (L[i].2.cf.drop j) Nt=AD L[i].2.cf Ns) ?_ ⟨_,0,nd,Ns,rfl,⟨by omega,fun b hb=>by rw [F5.ca b (by omega),fr1.ca b hb]⟩,aI _,rfl,by omega,?_,?_,?_,?_,?_,?_,?_,m5,bf5,inr.sub,by omega,rfl⟩
       ·rintro mm fr hs ⟨ts,j,nd,Nt,rfl,fs,xs5,rfl,hjl,t0,t90,t91,t92,t97,t98,t99,ms',bfs,ins',lNt,hNt⟩
        have xs:=fs.bX;have as':=aY.fix fs fun b hb=>⟨by omega,by omega⟩;have obs':=as'.ob _ (aP hli);refine ap ?_;(try simp only [aE,rL,rD,rB,reduceIte,t98,t99]);refine aw ?_
        by_cases hlj:j<L[i].2.cf.length
        ·refine aG (WC.skip ?_);refine az ?_;obtain ⟨p,p1,p2⟩:=obs'.cf.at cD rfl ty9 rfl rfl hlj;have p2:=p2 hs fun _ _ _ _ _=>rfl;rw [da hlj] at hNt;simp only [AD] at hNt;generalize hnm:L[i].2.cf[j]=nm at p2 hNt;refine ao ?_;refine ap ?_;(try simp only [aE,rL,rD,rB,reduceIte,t97,t99,p1,p2]);refine ap ?_;(try simp only [aE,rL,rD,rB,reduceIte,t0,dF,eW,aH,ms'.bk.at cD rfl]);refine (pS (show Ss g hs nd Nt from bfs.sl) (by omega)).mono fun v h6 ⟨e6,f6⟩=>?_
         have f6:=f6.symm;subst e6 f6
         cases hc:Nt.contains nm with
         | true =>
          rw [hc] at hNt;simp only [if_true] at hNt;(try simp only [aE,rL,rD,rB,reduceIte,cY,hc,aV]);refine aw ?_;refine aF (WC.skip ?_);refine ax ?_;(try simp only [aE,rL,rD,rB,reduceIte,t99,ct])
          refine ⟨_,?_,_,j+1,nd,Nt,rfl,fs,xs5,rfl,by omega,?_⟩
          ·omega
          (try simp only [aE,rL,rD,rB,reduceIte,t0,t90,t91,t92,t97,t98]);refine ⟨aD,aD,aD,aD,aD,aD,?_,ms',bfs,ins',by omega,hNt⟩;rw [cy (by omega) (by omega)];rfl
         | false =>
          rw [hc] at hNt;simp only [Bool.false_eq_true,if_false] at hNt;(try simp only [aE,rL,rD,rB,reduceIte,cY,hc,bE]);refine aw ?_;refine aG ?_;refine ax ?_;(try simp only [aE,rL,rD,rB,reduceIte,t0,dF,eW,aH,ms'.bk.at cD rfl]);refine de (cs:=[.str nm]) cD rfl ty9 rfl (by decide) (by decide) rfl rfl ?_;intro h7 bl n7 f7;have m7:=ms'.kept f7;have bf7:=bfs.fix (K:=(·<hs.bX)) (ins'.sub fun b hb=>hb.2) f7
          refine az ?_;refine df (m:=1) (ws:=[.str nm]) bf7 cD rfl cD (.inl ⟨_,rfl⟩) ty9 rfl (by decide) (by decide) (Sl.len bl.sl) (Sl.cells bl.sl) rfl rfl (show (Nt.length+1) * 16≤140737488355328 by omega) (ins'.sub) ?_;intro s' h8 bf8 i8 o8 f8;have x8:=f8.bX;have kn7:=m7.kn;have m8:=m7.fix f8 ⟨by omega,fun o k cc e=>by have:=ins' _ _ _ _ e;omega⟩ ⟨by omega,fun o k cc e=>by have:=ins' _ _ _ _ e;omega⟩ ⟨by omega,fun o k cc e=>by have:=ins' _ _ _ _ e;omega⟩ ⟨by omega,fun o k cc e=>by have:=ins' _ _ _ _ e;omega⟩
          (try simp only [aE,rL,rD,rB,reduceIte,t0,dF,eW,aH]);have one8:s'.cells=[s']∧s'.one=true:=Sl.one bf8.sl;refine cq m8.bk cD (by rw [one8.1];rfl) (show 5+6+1≤12 by decide) (by rw [one8.1];simp [one8.2]) ?_;intro h9 b9 n9 f9;rw [one8.1] at b9;have m9:=m8.put (im':=imV base bb N code entry ex sl s') f9 b9 dk sk tk;have in8:=rn (hi:=hs.bX) ins' o8 (by omega) i8;refine ax ?_;(try simp only [aE,rL,rD,rB,reduceIte,t99,ct])
          refine ⟨_,?_,_,j+1,s',Nt++[nm],rfl,⟨by omega,fun b hb=>by rw [f9.ca b hb.2,f8.ca b ⟨by omega,fun o k cc e=>by have:=ins' _ _ _ _ e;omega⟩,f7.ca b (by omega),fs.ca b hb]⟩,by omega,rfl,by omega,?_⟩
          ·omega
          (try simp only [aE,rL,rD,rB,reduceIte,t0,t90,t91,t92,t97,t98])
          refine ⟨aD,aD,aD,aD,aD,aD,?_,m9,?_,in8.sub,by simp;omega,hNt⟩
          ·rw [cy (by omega) (by omega)];rfl
          ·have:=bf8.fix (K:=(·≠kb)) (in8.sub) f9;simpa using this
        ·refine aF (WC.exit ?_);have:j=L[i].2.cf.length:=by omega
         subst this;rw [bU] at hNt;simp only [AD] at hNt;rw [←hNt] at hNs;(try simp only [aE,rL,rD,rB,reduceIte,nb6]);refine ap ?_;(try simp only [aE,rL,rD,rB,reduceIte,t92,ct])
         refine ⟨_,?_,_,i+1,nd,Nt,rfl,fs,rfl,by omega,?_⟩
         ·omega
         (try simp only [aE,rL,rD,rB,reduceIte,t0,t90,t91]);refine ⟨aD,aD,aD,?_,ms',bfs,ins',by omega,hNs⟩;rw [cy (by omega) (by omega)];rfl
       all_goals (try simp only [aE,rL,rD,rB,reduceIte,t0,t90,t91,t92])
       all_goals (first|done|rfl|trivial|simp)
      ·refine aF (WC.exit ?_);have:i=L.length:=by omega
       subst this;rw [bK (by rw [z.len];exact aI _)] at hNs;simp only [gy] at hNs;rw [←hNs,←hB];have bbR:=bbq.fix fr1 ⟨by omega,bk⟩;have lN2:bs.length=N:=lbs;(try simp only [aE,rL,rD,rB,reduceIte,nb4])
       refine ⟨⟨by omega,fun b hb=>by rw [fr1.ca b ⟨by omega,hb.2.1⟩,FY.ca b hb]⟩,ex,sl,nd,mr.bk,⟨?_,?_,?_,bfr.sl,?_,?_,?_,?_⟩⟩
       ·show Sl (E g) hr 1 (.slice bb 0 N (.lit N)) bs.length (bs.map u8);rw [lN2];exact bbR.slice (by simp [lN2]) (fun c e=>by injection e with e;omega)
       ·exact Sl.fix exY (inj.sub fun b hb=>⟨by omega,by omega⟩) fr1
       ·exact Sl.fix slY (inq.sub fun b hb=>⟨by omega,by omega⟩) fr1
       ·intro b o n c e;injection e with e1;subst e1;exact ⟨by omega,.inl rfl⟩
       ·exact inj.sub fun b hb=>⟨by omega,.inr (by omega)⟩
       ·exact inq.sub fun b hb=>⟨by omega,.inr (by omega)⟩
       ·exact inr.sub fun b hb=>⟨by omega,.inr (by omega)⟩
     all_goals (try simp only [aE,rL,rD,rB,reduceIte])
     all_goals (first|done|rfl|trivial|simp)
   all_goals (try simp only [aE,rL,rD,rB,reduceIte])
   all_goals (first|done|rfl|trivial|simp)
 all_goals (try simp only [aE,rL,rD,rB,reduceIte])
 all_goals (first|done|rfl|trivial|simp)
end Go.Proofs.OP
