/- Walks: ref.Link. Printed by genR6.py. -/
import Derived.Test.YtloblhhnlaaajaaDoorY45
set_option maxHeartbeats 64000000
set_option maxRecDepth 100000
set_option linter.unusedVariables false
set_option linter.unusedSimpArgs false
set_option linter.defProp false
namespace Go.Proofs.OP
open Go Go.Ev
open Go.Proofs
open Nat renaming reduceLT → rL, reduceEqDiff → rD, reduceBEq → rB
variable {g : T (List V)}
theorem nb12:Nat.beq 12 12=true:=rfl
theorem nb14:Nat.beq 14 14=true:=rfl
theorem nb16:Nat.beq 16 16=true:=rfl
theorem nb18:Nat.beq 18 18=true:=rfl
theorem beq_nil {a:List UInt8} (h:a=[]):(!(a==[]))=false:=by subst h;rfl
theorem Cz {a:List UInt8} (h:¬a=[]):(!(a==[]))=true:=by simp [h]
theorem uG {a b:Int}:dY (E g) 35 [(0,.int .i64 a),(1,.int .i64 b)]=some (.agg (cG (a,b))):=by
 simp only [dY,cP,cW,nth,cL mG,cL ty3,List.all_cons,List.all_nil,ty3,mG,bF,Bool.and_true,aV,cond_false]
 rfl
theorem Bm {h:H} {ls:V} {L:List (Oc×ObjD)} {base:Int} (a:Obs g h (·<h.bX) ls L) (fL:∀p∈L,Fits p.2) (lA:L.length<2^30) :
  WF (E g) 18 [ls,.int .i64 base] h fun v h'=>cH h h'∧match ud (L.map (·.2)) base with
   | .error f=>v=.tuple [.agg kY,.agg (cG f)]
   | .ok x=>FitsI x∧∃c,v=.tuple [.agg (c.cells x),.agg (cG (0,0))]∧Im g h' (fun b=>h.bX≤b∧b<h'.bX) c x:=by
 have hlo:(L.map (·.2)).length=L.length:=by simp
 generalize hos:L.map (·.2)=os at *;have hoi:∀i (h:i<L.length),os[i]'(by omega)=L[i].2:=fun i h=>by subst hos;simp
 refine WF.enter fn18 rfl ?_;refine au ?_;refine cz gY ?_;intro h1 b1 n1 f1;have b1:Has h1 h.bX kY:=b1;refine az ?_;refine cz cP ?_;intro h2 b2 n2 f2;have b2:Has h2 h1.bX (cG (0,0)):=b2;refine az ?_;have b1:=b1.fix f2;have F2:cH h h2:=⟨by omega,fun b hb=>by rw [f2.ca b (by omega),f1.ca b hb]⟩;have a2:=a.fix F2 fun b hb=>hb;refine ap ?_;(try simp only [aE,rL,rD,rB,reduceIte,Sl.lenB a2.sl gM rfl]);refine aw ?_
 by_cases c1:L.length=0
 ·have hP:ud os base=.error (0,9):=by unfold ud;rw [if_pos (by omega)]
  rw [hP];refine WC.cond (b:=true) (by (try simp only [aE,rL,rD,rB,reduceIte,nf (show ((L.length:Nat):Int)=0 by omega)]);(try simp);(try omega)) ?_;refine ax ?_;(try simp only [aE,rL,rD,rB,reduceIte,ma,mE]);refine cq b1 gY rfl (aI 7) rfl ?_;intro hc bc nc fc;refine az ?_;refine cq (b2.fix fc) cP rfl (aI 2) (cN _) ?_;intro hd bd nd fd;have l1:cx (E g) hd 60 (.ptr h.bX 0)=some (.agg kY):=(bc.fix fd).agg gY rfl (aI 7)
  have l2:cx (E g) hd 35 (.ptr h1.bX 0)=some (.agg (cG (0,9))):=bd.agg cP rfl (aI 2);refine az ?_;refine WC.ret ?_;(try simp only [aE,rL,rD,rB,reduceIte,l1,l2]);exact ⟨⟨by omega,fun b hb=>by rw [fd.ca b (by omega),fc.ca b (by omega),F2.ca b hb]⟩,by trivial⟩
 refine WC.cond (b:=false) (by (try simp only [aE,rL,rD,rB,reduceIte,li (show ¬((L.length:Nat):Int)=0 by omega)]);(try simp);(try omega)) (WC.skip ?_);refine ax ?_;(try simp only [aE,rL,rD,rB,reduceIte,Sl.lenB a2.sl gM rfl]);refine aw ?_
 by_cases c2:20<L.length
 ·have hP:ud os base=.error (0,18):=by unfold ud;rw [if_neg (by omega),if_pos (by omega)]
  rw [hP];refine aG ?_;refine ax ?_;(try simp only [aE,rL,rD,rB,reduceIte,ma,mE]);refine cq b1 gY rfl (aI 7) rfl ?_;intro hc bc nc fc;refine az ?_;refine cq (b2.fix fc) cP rfl (aI 2) (cN _) ?_;intro hd bd nd fd;have l1:cx (E g) hd 60 (.ptr h.bX 0)=some (.agg kY):=(bc.fix fd).agg gY rfl (aI 7);have l2:cx (E g) hd 35 (.ptr h1.bX 0)=some (.agg (cG (0,18))):=bd.agg cP rfl (aI 2);refine az ?_;refine WC.ret ?_
  (try simp only [aE,rL,rD,rB,reduceIte,l1,l2]);exact ⟨⟨by omega,fun b hb=>by rw [fd.ca b (by omega),fc.ca b (by omega),F2.ca b hb]⟩,by trivial⟩
 refine aF (WC.skip ?_);refine ax ?_
 have hcase:(base<0∨1073741824<base∨base.tmod 16≠0)∨(¬base<0∧¬1073741824<base∧base.tmod 16=0):=by
  by_cases q1:base<0
  ·exact .inl (.inl q1)
  ·by_cases q2:1073741824<base
   ·exact .inl (.inr (.inl q2))
   ·by_cases q3:base.tmod 16=0
    ·exact .inr ⟨q1,q2,q3⟩
    ·exact .inl (.inr (.inr q3))
 have rem16:∀{h:H} {c:Bool} {t:Nat} {x:Int},fJ (E g) h c .rem t (.int .i64 x) (.int .i64 16)=some (.int .i64 (x.tmod 16)):=pV (by decide)
 rcases hcase with hbad|⟨q1,q2,q3⟩
 ·have hP:ud os base=.error (0,34):=by unfold ud;rw [if_neg (by omega),if_neg (by omega),if_pos hbad]
  rw [hP]
  by_cases q1:base<0
  ·(try simp only [aE,rL,rD,rB,reduceIte,aJ q1,un]);refine aw ?_;refine aG ?_;refine ax ?_;(try simp only [aE,rL,rD,rB,reduceIte,ma,mE]);refine cq b1 gY rfl (aI 7) rfl ?_;intro hc bc nc fc;refine az ?_;refine cq (b2.fix fc) cP rfl (aI 2) (cN _) ?_;intro hd bd nd fd;have l1:cx (E g) hd 60 (.ptr h.bX 0)=some (.agg kY):=(bc.fix fd).agg gY rfl (aI 7);have l2:cx (E g) hd 35 (.ptr h1.bX 0)=some (.agg (cG (0,34))):=bd.agg cP rfl (aI 2)
   refine az ?_;refine WC.ret ?_;(try simp only [aE,rL,rD,rB,reduceIte,l1,l2]);exact ⟨⟨by omega,fun b hb=>by rw [fd.ca b (by omega),fc.ca b (by omega),F2.ca b hb]⟩,by trivial⟩
  by_cases q2:1073741824<base
  ·(try simp only [aE,rL,rD,rB,reduceIte,aK q1,aJ q2,un]);refine aw ?_;refine aG ?_;refine ax ?_;(try simp only [aE,rL,rD,rB,reduceIte,ma,mE]);refine cq b1 gY rfl (aI 7) rfl ?_;intro hc bc nc fc;refine az ?_;refine cq (b2.fix fc) cP rfl (aI 2) (cN _) ?_;intro hd bd nd fd;have l1:cx (E g) hd 60 (.ptr h.bX 0)=some (.agg kY):=(bc.fix fd).agg gY rfl (aI 7);have l2:cx (E g) hd 35 (.ptr h1.bX 0)=some (.agg (cG (0,34))):=bd.agg cP rfl (aI 2)
   refine az ?_;refine WC.ret ?_;(try simp only [aE,rL,rD,rB,reduceIte,l1,l2]);exact ⟨⟨by omega,fun b hb=>by rw [fd.ca b (by omega),fc.ca b (by omega),F2.ca b hb]⟩,by trivial⟩
  have q3:¬base.tmod 16=0:=by
   rcases hbad with q|q|q
   ·exact absurd q q1
   ·exact absurd q q2
   ·exact q
  (try simp only [aE,rL,rD,rB,reduceIte,aK q1,aK q2,rem16,un,kz q3]);refine aw ?_;refine aG ?_;refine ax ?_;(try simp only [aE,rL,rD,rB,reduceIte,ma,mE]);refine cq b1 gY rfl (aI 7) rfl ?_;intro hc bc nc fc;refine az ?_;refine cq (b2.fix fc) cP rfl (aI 2) (cN _) ?_;intro hd bd nd fd;have l1:cx (E g) hd 60 (.ptr h.bX 0)=some (.agg kY):=(bc.fix fd).agg gY rfl (aI 7);have l2:cx (E g) hd 35 (.ptr h1.bX 0)=some (.agg (cG (0,34))):=bd.agg cP rfl (aI 2)
  refine az ?_;refine WC.ret ?_;(try simp only [aE,rL,rD,rB,reduceIte,l1,l2]);exact ⟨⟨by omega,fun b hb=>by rw [fd.ca b (by omega),fc.ca b (by omega),F2.ca b hb]⟩,by trivial⟩
 have hP:ud os base=match rfP base os with
   | .error f=>.error f
   | .ok _=>match nW base (upN (dJ os):Nat) os 0 os 0 with
    | .error f=>.error f
    | .ok e=>.ok (Bo base os e):=by unfold ud;rw [if_neg (by omega),if_neg (by omega),if_neg (by omega)];cases rfP base os<;>rfl
 have bas:Bas base:=⟨by omega,by omega,q3⟩;(try simp only [aE,rL,rD,rB,reduceIte,aK q1,aK q2,rem16,un,p7 q3]);refine aw ?_;refine aF (WC.skip ?_);refine ax ?_;have oneL:ls.cells=[ls]:=(Sl.one a2.sl).1;(try simp only [aE,rL,rD,rB,reduceIte,bld125 oneL]);refine eI (v:=.agg (rkV ls base .nils 0 0 .nils 0)) (by (try simp only [aE,rL,rD,rB,reduceIte])) ?_;intro h3 b3 n3 f3;have b3:Has h3 h2.bX (rkV ls base .nils 0 0 .nils 0):=b3
 have a3:=a2.fix f3;have c1:=b1.fix f3;have c2:=b2.fix f3;refine ay ?_;refine (C5 (n0:=h.bX) (by omega) a3 bas (by omega) fL b3 (by omega) (by omega)).mono fun v h4 ⟨f4,q4⟩=>?_;rw [hos] at q4;have x4:=f4.bX;have d1:=c1.fix f4 ⟨by omega,by omega⟩;have d2:=c2.fix f4 ⟨by omega,by omega⟩;have F4:cH h h4:=⟨by omega,fun b hb=>by rw [f4.ca b ⟨by omega,by omega⟩,f3.ca b (by omega),F2.ca b hb]⟩;refine az ?_
 refine cz cP ?_;intro h5 b5 n5 f5;refine az ?_
 cases hF:rfP base os with
 | error f =>
  rw [hF] at hP q4;simp only at hP q4;rw [hP];subst q4;refine cq b5 cP rfl (aI 2) (cN _) ?_;intro h6 b6 n6 f6;have b6:Has h6 h4.bX (cG f):=b6;have F6:cH h4 h6:=⟨by omega,fun b hb=>by rw [f6.ca b (by omega),f5.ca b hb]⟩;have d1:=d1.fix F6;have d2:=d2.fix F6;have l6:cx (E g) h6 35 (.ptr h4.bX 0)=some (.agg (cG f)):=b6.agg cP rfl (aI 2);have l6':cx (E g) h6 33 (.ptr h4.bX 1)=some (i64 f.2):=b6.at mG rfl 1
  have hf2:¬f.2=0:=Ie hF;refine ax ?_;(try simp only [aE,rL,rD,rB,reduceIte,lw,aH,l6',i64]);refine aw ?_;refine WC.cond (b:=true) (by (try simp only [aE,rL,rD,rB,reduceIte,kz hf2]);(try simp);(try omega)) ?_
  ((repeat refine WC.seq ?_);refine WC.draw (plans:=EG) (by kernel_rfl) ?_;simp only [EG,ak])
  (try simp (maxSteps:=2000000) only [aE,rL,rD,rB,reduceIte,af,Chk,ma,l6]);refine cq d1 gY rfl (aI 7) rfl ?_;intro hc bc nc fc;have l6c:cx (E g) hc 35 (.ptr h4.bX 0)=some (.agg (cG f)):=(b6.fix fc).agg cP rfl (aI 2);(try simp (maxSteps:=2000000) only [aE,rL,rD,rB,reduceIte,af,Chk,l6c]);refine cq (d2.fix fc) cP rfl (aI 2) (cN _) ?_;intro hd bd nd fd;have l1:cx (E g) hd 60 (.ptr h.bX 0)=some (.agg kY):=(bc.fix fd).agg gY rfl (aI 7)
  have l2:cx (E g) hd 35 (.ptr h1.bX 0)=some (.agg (cG f)):=bd.agg cP rfl (aI 2);refine am ?_;refine WC.ret ?_;(try simp only [aE,rL,rD,rB,reduceIte,l1,l2]);exact ⟨⟨by omega,fun b hb=>by rw [fd.ca b (by omega),fc.ca b (by omega),F6.ca b (by omega),F4.ca b hb]⟩,by trivial⟩
 | ok u =>
 rw [hF] at hP q4;simp only at hP q4;obtain ⟨rfl,lg,stb,nm,hstb,rk4⟩:=q4;refine cq b5 cP rfl (aI 2) (cN _) ?_;intro h6 b6 n6 f6;have b6:Has h6 h4.bX (cG (0,0)):=b6;have F6:cH h4 h6:=⟨by omega,fun b hb=>by rw [f6.ca b (by omega),f5.ca b hb]⟩;have d1:=d1.fix F6;have d2:=d2.fix F6;have rk6:=rk4.fix F6;have l6':cx (E g) h6 33 (.ptr h4.bX 1)=some (i64 0):=b6.at mG rfl 1;refine ax ?_;(try simp only [aE,rL,rD,rB,reduceIte,lw,aH,l6',i64])
 refine aw ?_;refine aF (WC.skip ?_);refine az ?_;have hsz:=Id hF;have hck:=Gv hF;have hent:=pT hck;have hb0:=lg.base.pos;have hb1:=lg.base.most;have lL:=lg.len;rw [hlo] at lL;obtain ⟨N,hN⟩:∃N,N=oW os:=⟨_,rfl⟩;rw [←hN] at rk6 hsz;obtain ⟨kb,hkb⟩:∃kb,kb=h2.bX:=⟨_,rfl⟩;rw [←hkb] at rk6;obtain ⟨code,hcode⟩:∃code:Int,code=(upN (dJ os):Nat):=⟨_,rfl⟩;rw [←hcode] at rk6 hP;have e8:List.replicate N (V.int .u8 0)=(List.replicate N (0:UInt8)).map u8:=by rw [List.map_replicate];rfl
 have hhk:h2.bX=kb:=hkb.symm;rw [hhk];refine aw ?_
 refine WC.mono (Q:=fun e fr h7=>e=.normal∧∃ts bb xb,fr=⟨ts,352,[],18,none⟩∧ts.get 0=some ls∧ts.get 1=some (.int .i64 base)∧ts.get 4=some (.ptr h.bX 0)∧ts.get 5=some (.ptr h1.bX 0)∧ts.get 6=some (.ptr kb 0)∧ts.get 8=some (.ptr xb 0)∧h6.bX≤bb∧bb<h7.bX∧h6.bX≤xb∧xb<h7.bX∧bb≠xb∧cH h6 h7∧Has h7 xb (imV base bb N code 0 .nils .nils .nils)∧At h7 bb 0 ((List.replicate N (0:UInt8)).map u8)) ?_ ?_
 ·((repeat refine WC.seq ?_);refine WC.draw (plans:=EF) (by kernel_rfl) ?_;simp only [EF,ak])
  refine ⟨?_,?_⟩
  ·(try simp (maxSteps:=2000000) only [aE,rL,rD,rB,reduceIte,af,Chk,jx,kW,aH,rk6.bk.at ty2 rfl,i64,jT]);refine iQ (s:=1) (v:=.int .u8 0) (n:=N) cM rfl ty5 rfl rfl (by decide) (show 1 * N≤281474976710656 by omega) (by omega) ?_;intro h7 b7 n7 f7;rw [bL,e8] at b7;have rk7:=rk6.fix (f7.sub);(try simp (maxSteps:=2000000) only [aE,rL,rD,rB,reduceIte,af,Chk,Ax,jx,kW,aH,rk7.bk.at ty2 rfl,i64]);refine cz gY ?_
   intro h8 b8 n8 f8;have rk8:=rk7.fix (f8.sub fun b hb=>by have:=rk7.le;omega);(try simp (maxSteps:=2000000) only [aE,rL,rD,rB,reduceIte,af,Chk,Ax,jx,kW,aH,rk8.bk.at ty2 rfl,i64]);refine cq b8 gY rfl (aI 7) rfl ?_;intro h9 b9 n9 f9;have b9:Has h9 h7.bX (imV base h6.bX N code 0 .nils .nils .nils):=b9;have c9:=(b7.fix f8).fix f9;have rk9:=rk8.fix (f9.sub fun b hb=>by have:=rk7.le;omega);(try simp (maxSteps:=2000000) only [aE,rL,rD,rB,reduceIte,af,Chk,jx,kW,aH,rk9.bk.at ty2 rfl,i64])
   refine ⟨_,h6.bX,h7.bX,rfl,?_,?_,?_,?_,?_,?_,by omega,by omega,by omega,by omega,by omega,⟨by omega,fun b hb=>by rw [f9.ca b (by omega),f8.ca b (by omega),f7.ca b hb]⟩,b9,c9.at0⟩
   all_goals (try simp only [aE,rL,rD,rB,reduceIte])
  ·(try simp (maxSteps:=2000000) only [aE,rL,rD,rB,reduceIte,af,Chk,jx,kW,aH,rk6.bk.at ty2 rfl,i64,jT]);refine cz gY ?_;intro h8 b8 n8 f8;have rk8:=rk6.fix (f8.sub fun b hb=>by have:=rk6.le;omega);(try simp (maxSteps:=2000000) only [aE,rL,rD,rB,reduceIte,af,Chk,jT,jx,kW,aH,rk8.bk.at ty2 rfl,i64]);refine iQ (s:=1) (v:=.int .u8 0) (n:=N) cM rfl ty5 rfl rfl (by decide) (show 1 * N≤281474976710656 by omega) (by omega) ?_
   intro h7 b7 n7 f7;rw [bL,e8] at b7;have rk7:=rk8.fix (f7.sub fun b hb=>by have:=rk6.le;omega);(try simp (maxSteps:=2000000) only [aE,rL,rD,rB,reduceIte,af,Chk,Ax,jx,kW,aH,rk7.bk.at ty2 rfl,i64]);refine cq (b8.fix f7) gY rfl (aI 7) rfl ?_;intro h9 b9 n9 f9;have b9:Has h9 h6.bX (imV base h8.bX N code 0 .nils .nils .nils):=b9;have c9:=b7.fix f9;have rk9:=rk7.fix (f9.sub fun b hb=>by have:=rk6.le;omega)
   (try simp (maxSteps:=2000000) only [aE,rL,rD,rB,reduceIte,af,Chk,jx,kW,aH,rk9.bk.at ty2 rfl,i64]);refine ⟨_,h8.bX,h6.bX,rfl,?_,?_,?_,?_,?_,?_,by omega,by omega,by omega,by omega,by omega,⟨by omega,fun b hb=>by rw [f9.ca b (by omega),f7.ca b (by omega),f8.ca b hb]⟩,b9,c9.at0⟩
   all_goals (try simp only [aE,rL,rD,rB,reduceIte])
 rintro e fr hA ⟨rfl,ts,bb,xb,rfl,t0,t1,t4,t5,t6,t8,bb1,bb2,xb1,xb2,bx,FA,mA,aA⟩
 have xA:=FA.bX
 have ph:∀hx,Fix (·<h6.bX) hA hx→Rk g hx h4.bX kb stb ls nm L base code (base+(fM os:Nat)) (N:Nat) (gL os [])∧Has hx h.bX kY∧Has hx h1.bX (cG (0,0))∧Obs g hx (·<h6.bX) ls L:=fun hx fx=>by
  have FX:cH h6 hx:=FA.trans fx;have hle:=rk6.le;exact ⟨rk6.fix (FX.sub),d1.fix FX,d2.fix FX,((a3.fix f4 fun b hb=>⟨by omega,by omega⟩).fix F6).up (fun b hb=>by omega) |>.fix FX fun b hb=>hb⟩
 obtain ⟨rkA,zA1,zA2,oA⟩:=ph hA (Fix.refl _ _);refine ax ?_;(try simp only [aE,rL,rD,rB,reduceIte,t0,Sl.lenB oA.sl gM rfl]);refine ao ?_
 refine WC.while (fun m fr hi=>∃ts i bs nd Nd,fr=⟨ts,352,[],18,none⟩∧Fix (fun b=>b<hA.bX∧b≠xb∧b≠bb) hA hi∧m=L.length - i∧i≤L.length∧ts.get 0=some ls∧ts.get 1=some (.int .i64 base)∧ts.get 4=some (.ptr h.bX 0)∧ts.get 5=some (.ptr h1.bX 0)∧ts.get 6=some (.ptr kb 0)∧ts.get 8=some (.ptr xb 0)∧ts.get 84=some ls∧ts.get 85=some (.int .i64 L.length)∧ts.get 86=some (.int .i64 i)∧Has hi xb (imV base bb N code 0 .nils .nils nd)∧At hi bb 0 (bs.map u8)∧bs.length=N∧pg os i (os.drop i) bs=pg os 0 os (List.replicate N 0)∧Buf (E g) hi 9 1 nd Nd.length (Nd.map V.str)∧In (fun b=>hA.bX≤b∧b<hi.bX) nd∧Nd.length≤i * 20∧gy (os.drop i) Nd=gy os []) ?_ ⟨_,0,List.replicate N 0,.nils,[],rfl,Fix.refl _ _,rfl,by omega,?_,?_,?_,?_,?_,?_,?_,?_,?_,mA,aA,by simp,by simp,.nil,(fun b o n c e=>by cases e),by simp,by simp⟩
 ·rintro m fr hi ⟨ts,i,bs,nd,Nd,rfl,fi,rfl,hil,t0,t1,t4,t5,t6,t8,t84,t85,t86,bxi,bai,lbs,hB,bfi,ini,lN,hNd⟩
  have xi:=fi.bX;obtain ⟨rki,_,_,oi⟩:=ph hi (fi.sub fun b hb=>⟨by omega,by omega,by omega⟩);refine ap ?_;(try simp only [aE,rL,rD,rB,reduceIte,t85,t86]);refine aw ?_
  by_cases hli:i<L.length
  ·refine aG (WC.skip ?_);refine az ?_;obtain ⟨p,p1,p2⟩:=oi.sl.at (fun _=>rfl) gM rfl eP rfl (by decide) rfl hli;have p2:=p2 hi fun _ _ _ _ _=>rfl;have obi:=oi.ob _ (aP hli);have gdi:=lg.good _ (show L[i].2∈os by rw [←hoi i hli];exact aP _);have nni:=gdi.nneed;have q1:=mK (os:=os) (i:=i) (by omega);have q2:=mJ (os:=os) (i:=i) (by omega);rw [hoi i hli] at q1 q2;have hTN:fM os≤N:=by rw [hN];unfold oW;omega
   rw [da (by omega),hoi i hli] at hB hNd;simp only [pg] at hB;simp only [gy] at hNd;refine ao ?_;refine ap ?_;(try simp only [aE,rL,rD,rB,reduceIte,t84,t86,p1,p2]);refine cz eP ?_;intro h11 b11 n11 f11;refine az ?_;refine cq b11 eP rfl (aI 7) (Oc.one obi) ?_;intro h12 b12 n12 f12;have b12:Has h12 hi.bX [.str L[i].2.name,L[i].1.code,L[i].1.data,L[i].1.ce,L[i].1.ci,L[i].1.cf,.str L[i].2.entry]:=b12;have F12:cH hi h12:=⟨by omega,fun b hb=>by rw [f12.ca b (by omega),f11.ca b hb]⟩
   have ob12:=obi.fix F12;have bx12:=bxi.fix F12;have bb12:=bai.fix F12;have G12:Fix (fun b=>b<hA.bX∧b≠xb∧b≠bb) hA h12:=fi.trans (F12.sub);have rk12:=(ph h12 (G12.sub fun b hb=>⟨by omega,by omega,by omega⟩)).1;have bf12:=bfi.fix (K:=(·<hi.bX)) (ini.sub fun b hb=>hb.2) F12;have s1:=rk12.bs.at (E:=E g) ty2 rfl (i * 3+1);rw [gw (by omega),jM (by omega) (by omega),hos] at s1;have w1:IntKind.i64.wrap (base+(stO os 1 i:Nat) - base)=((stO os 1 i:Nat):Int):=by rw [cy (by omega) (by omega)];omega
   have w2:IntKind.i64.wrap (base+(stO os 2 i:Nat) - base)=((stO os 2 i:Nat):Int):=by rw [cy (by omega) (by omega)];omega
   obtain ⟨o1,cc1,sl1,so1⟩:=oT (g:=g) (b:=bb) (n:=N) (k:=.i64) cM rfl ty5 rfl (show stO os 1 i≤N by omega);obtain ⟨o2,cc2,sl2,so2⟩:=oT (g:=g) (b:=bb) (n:=N) (k:=.i64) cM rfl ty5 rfl (show stO os 2 i≤N by omega);have ix1:cK (E g) 126 (.ptr stb (i * 3)) (.int .i64 1)=some (.ptr stb (i * 3+1)):=by have:=ke (g:=g) (b:=stb) (o:=i * 3) (k:=1) (ik:=.i64) gK rfl ty2 (by decide);simpa using this
   have ix2:cK (E g) 126 (.ptr stb (i * 3)) (.int .i64 2)=some (.ptr stb (i * 3+2)):=by have:=ke (g:=g) (b:=stb) (o:=i * 3) (k:=2) (ik:=.i64) gK rfl ty2 (by decide);simpa using this
   refine az ?_
   ((repeat refine WC.seq ?_);refine WC.draw (plans:=EE) (by kernel_rfl) ?_;simp only [EE,ak])
   (try simp (maxSteps:=2000000) only [aE,rL,rD,rB,reduceIte,af,Chk,t1,t6,t8,dW,kX,jm,aH,bx12.at cM rfl,rk12.bk.at eK rfl,b12.at cM rfl,ef eK rfl gK hli,ix1,s1,i64,cF,w1,sl1]);refine nU bb12 (by omega) lbs so1 ob12.code ?_;intro v13 h13 a13 n13 f13;have bx13:=bx12.fix f13;have b13:=b12.fix f13;have ob13:=ob12.fix f13;have rk13:=(ph h13 ((G12.trans (f13.sub fun b hb=>hb.2.2)).sub fun b hb=>⟨by omega,by omega,by omega⟩)).1
   have s1':=rk13.bs.at (E:=E g) ty2 rfl (i * 3+1);rw [gw (by omega),jM (by omega) (by omega),hos] at s1';have s2':=rk13.bs.at (E:=E g) ty2 rfl (i * 3+2);rw [gw (by omega),jM (by omega) (by omega),hos] at s2';have l13:(er bs (stO os 1 i) L[i].2.code).length=N:=by rw [dP (by omega),lbs]
   (try simp (maxSteps:=2000000) only [aE,rL,rD,rB,reduceIte,af,Chk,t1,t6,t8,dW,kX,jm,aH,bx13.at cM rfl,rk13.bk.at eK rfl,b13.at cM rfl,ef eK rfl gK hli,ix1,s1',i64,cF,w1,sl1])
   ((repeat refine WC.seq ?_);refine WC.draw (plans:=ED) (by kernel_rfl) ?_;simp only [ED,ak])
   (try simp (maxSteps:=2000000) only [aE,rL,rD,rB,reduceIte,af,Chk,t1,t6,t8,dW,kX,jl,aH,bx13.at cM rfl,rk13.bk.at eK rfl,b13.at cM rfl,ef eK rfl gK hli,ix2,s2',i64,cF,w2,sl2]);refine nU a13 (by omega) l13 so2 ob13.data ?_;intro v14 h14 a14 n14 f14;have l14:(er (er bs (stO os 1 i) L[i].2.code) (stO os 2 i) L[i].2.data).length=N:=by rw [dP (by omega),l13]
   have bx14:=bx13.fix f14;have b14:=b13.fix f14;have ob14:=ob13.fix f14;have G14:Fix (fun b=>b<hA.bX∧b≠xb∧b≠bb) hA h14:=G12.trans ((f13.trans f14).sub fun b hb=>hb.2.2);have rk14:=(ph h14 (G14.sub fun b hb=>⟨by omega,by omega,by omega⟩)).1;have bf14:=bf12.fix (K:=(·≠bb)) (ini.sub) (f13.trans f14);have s2'':=rk14.bs.at (E:=E g) ty2 rfl (i * 3+2);rw [gw (by omega),jM (by omega) (by omega),hos] at s2''
   (try simp (maxSteps:=2000000) only [aE,rL,rD,rB,reduceIte,af,Chk,t1,t6,t8,dW,kX,jl,aH,bx14.at cM rfl,rk14.bk.at eK rfl,b14.at cM rfl,ef eK rfl gK hli,ix2,s2'',i64,cF,w2,sl2]);generalize hbs2:er (er bs (stO os 1 i) L[i].2.code) (stO os 2 i) L[i].2.data=bs2 at *;refine ap ?_;(try simp only [aE,rL,rD,rB,reduceIte,iW,aH,b14.at cD rfl,Sl.lenB ob14.cf cD rfl]);refine ao ?_
   refine WC.while (fun m fr hj=>∃ts j nd Nt,fr=⟨ts,352,[],18,none⟩∧Fix (fun b=>b<hA.bX∧b≠xb) h14 hj∧m=L[i].2.cf.length - j∧j≤L[i].2.cf.length∧ts.get 0=some ls∧ts.get 1=some (.int .i64 base)∧ts.get 4=some (.ptr h.bX 0)∧ts.get 5=some (.ptr h1.bX 0)∧ts.get 6=some (.ptr kb 0)∧ts.get 8=some (.ptr xb 0)∧ts.get 84=some ls∧ts.get 85=some (.int .i64 L.length)∧ts.get 86=some (.int .i64 i)∧ts.get 124=some L[i].1.cf∧ts.get 125=some (.int .i64 L[i].2.cf.length)∧ts.get 126=some (.int .i64 j)∧Has hj xb (imV base bb N code 0 .nils .nils nd) ∧
    Buf (E g) hj 9 1 nd Nt.length (Nt.map V.str)∧In (fun b=>hA.bX≤b∧b<hj.bX) nd∧Nt.length≤i * 20+j∧gy (os.drop (i+1)) (AD (L[i].2.cf.drop j) Nt)=gy os []) ?_ ⟨_,0,nd,Nd,rfl,Fix.refl _ _,rfl,by omega,?_,?_,?_,?_,?_,?_,?_,?_,?_,?_,?_,?_,bx14,bf14,ini.sub,by omega,by simpa using hNd⟩
   ·rintro m fr hj ⟨ts,j,nd,Nt,rfl,fj,rfl,hjl,t0,t1,t4,t5,t6,t8,t84,t85,t86,t124,t125,t126,bxj,bfj,inj,lNt,hNt⟩
    have xj:=fj.bX;have Gj:Fix (fun b=>b<hA.bX∧b≠xb∧b≠bb) hA hj:=G14.trans (fj.sub fun b hb=>⟨hb.1,hb.2.1⟩);have oj:=(ph hj (Gj.sub fun b hb=>⟨by omega,by omega,by omega⟩)).2.2.2;have obj:=oj.ob _ (aP hli);refine ap ?_;(try simp only [aE,rL,rD,rB,reduceIte,t125,t126]);refine aw ?_
    by_cases hlj:j<L[i].2.cf.length
    ·refine aG (WC.skip ?_);refine az ?_;obtain ⟨p,p1,p2⟩:=obj.cf.at cD rfl ty9 rfl rfl hlj;have p2:=p2 hj fun _ _ _ _ _=>rfl;rw [da hlj] at hNt;simp only [AD] at hNt;generalize hnm:L[i].2.cf[j]=nm at p2 hNt;refine ao ?_;refine ap ?_;(try simp only [aE,rL,rD,rB,reduceIte,t124,t126,p1,p2]);refine au ?_;refine ap ?_;(try simp only [aE,rL,rD,rB,reduceIte,t8,dD,aH,bxj.at cD rfl,Sl.lenB bfj.sl cD rfl]);refine ao ?_
     refine WC.while (fun m fr hq=>∃ts q,fr=⟨ts,352,[],18,none⟩∧hq=hj∧m=Nt.length - q∧q≤Nt.length∧ts.get 0=some ls∧ts.get 1=some (.int .i64 base)∧ts.get 4=some (.ptr h.bX 0)∧ts.get 5=some (.ptr h1.bX 0)∧ts.get 6=some (.ptr kb 0)∧ts.get 8=some (.ptr xb 0)∧ts.get 12=some (.str nm)∧ts.get 13=some (.bool ((Nt.take q).contains nm))∧ts.get 84=some ls∧ts.get 85=some (.int .i64 L.length)∧ts.get 86=some (.int .i64 i)∧ts.get 124=some L[i].1.cf∧ts.get 125=some (.int .i64 L[i].2.cf.length)∧ts.get 126=some (.int .i64 j)∧ts.get 131=some nd∧ts.get 132=some (.int .i64 Nt.length)∧ts.get 133=some (.int .i64 q)) ?_ ⟨_,0,rfl,rfl,rfl,by omega,?_,?_,?_,?_,?_,?_,?_,?_,?_,?_,?_,?_,?_,?_,?_,?_,?_⟩
     ·rintro m fr hq ⟨ts,q,rfl,hqj,rfl,hql,t0,t1,t4,t5,t6,t8,t12,t13,t84,t85,t86,t124,t125,t126,t131,t132,t133⟩
      have hqj:=hqj.symm;subst hqj;refine ap ?_;(try simp only [aE,rL,rD,rB,reduceIte,t132,t133]);refine aw ?_
      by_cases hlq:q<Nt.length
      ·refine aG (WC.skip ?_);refine az ?_;obtain ⟨p,p1,p2⟩:=(show Ss g hj nd Nt from bfj.sl).at cD rfl ty9 rfl rfl hlq;have p2:=p2 hj fun _ _ _ _ _=>rfl
       have hc1:(Nt.take (q+1)).contains nm=((Nt.take q).contains nm||(Nt[q]==nm)):=by
        rw [bW hlq,Bool.eq_iff_iff];simp only [List.contains_iff_mem,bN,aN,bS,beq_iff_eq]
        constructor
        ·rintro (q|q)
         ·exact .inl q
         ·exact .inr q.symm
        ·rintro (q|q)
         ·exact .inl q
         ·exact .inr q.symm
       refine ao ?_;refine ap ?_;(try simp only [aE,rL,rD,rB,reduceIte,t131,t133,p1,p2]);refine ap ?_
       cases hc:(Nt.take q).contains nm with
       | true =>
        rw [hc] at t13 hc1;(try simp only [aE,rL,rD,rB,reduceIte,t12,t13,un]);refine ap ?_;(try simp only [aE,rL,rD,rB,reduceIte,t133,ct])
        refine ⟨_,?_,_,q+1,rfl,aD,rfl,by omega,?_⟩
        ·omega
        (try simp only [aE,rL,rD,rB,reduceIte,t0,t1,t4,t5,t6,t8,t12,t84,t85,t86,t124,t125,t126,t131,t132]);refine ⟨aD,aD,aD,aD,aD,aD,aD,by rw [hc1];rfl,aD,aD,aD,aD,aD,aD,aD,aD,?_⟩;rw [cy (by omega) (by omega)];rfl
       | false =>
        rw [hc] at t13 hc1;(try simp only [aE,rL,rD,rB,reduceIte,t12,t13,un,gH]);refine ap ?_;(try simp only [aE,rL,rD,rB,reduceIte,t133,ct])
        refine ⟨_,?_,_,q+1,rfl,aD,rfl,by omega,?_⟩
        ·omega
        (try simp only [aE,rL,rD,rB,reduceIte,t0,t1,t4,t5,t6,t8,t12,t84,t85,t86,t124,t125,t126,t131,t132]);refine ⟨aD,aD,aD,aD,aD,aD,aD,by rw [hc1,Bool.false_or],aD,aD,aD,aD,aD,aD,aD,aD,?_⟩;rw [cy (by omega) (by omega)];rfl
      ·refine aF (WC.exit ?_);have:q=Nt.length:=by omega
       subst this;rw [bv] at t13;(try simp only [aE,rL,rD,rB,reduceIte,nb4]);refine ap ?_;(try simp only [aE,rL,rD,rB,reduceIte,t13,cY]);refine aw ?_
       cases hc:Nt.contains nm with
       | true =>
        rw [hc] at hNt;simp only [if_true] at hNt;refine WC.cond (b:=false) (by (try simp only [aE,rL,rD,rB,reduceIte,hc]);(try simp);(try omega)) (WC.skip ?_);refine ax ?_;(try simp only [aE,rL,rD,rB,reduceIte,t126,ct])
        refine ⟨_,?_,_,j+1,nd,Nt,rfl,fj,rfl,by omega,?_⟩
        ·omega
        (try simp only [aE,rL,rD,rB,reduceIte,t0,t1,t4,t5,t6,t8,t84,t85,t86,t124,t125]);refine ⟨aD,aD,aD,aD,aD,aD,aD,aD,aD,aD,aD,?_,bxj,bfj,inj,by omega,hNt⟩;rw [cy (by omega) (by omega)];rfl
       | false =>
        rw [hc] at hNt;simp only [Bool.false_eq_true,if_false] at hNt;refine WC.cond (b:=true) (by (try simp only [aE,rL,rD,rB,reduceIte,hc]);(try simp);(try omega)) ?_;refine ax ?_;(try simp only [aE,rL,rD,rB,reduceIte,t8,t12,dD,aH,bxj.at cD rfl]);refine de (cs:=[.str nm]) cD rfl ty9 rfl (by decide) (by decide) rfl rfl ?_;intro k7 bl n7 f7;have bx7:=bxj.fix f7;have bf7:=bfj.fix (K:=(·<hj.bX)) (inj.sub fun b hb=>hb.2) f7
        refine az ?_;refine df (m:=1) (ws:=[.str nm]) bf7 cD rfl cD (.inl ⟨_,rfl⟩) ty9 rfl (by decide) (by decide) (Sl.len bl.sl) (Sl.cells bl.sl) rfl rfl (show (Nt.length+1) * 16≤140737488355328 by omega) (inj.sub) ?_;intro s' k8 bf8 i8 o8 f8;have x8:=f8.bX;have bx8:=bx7.fix f8 ⟨by omega,fun o k cc e=>by have:=inj _ _ _ _ e;omega⟩;have in8:=rn (hi:=hj.bX) inj o8 (by omega) i8;(try simp only [aE,rL,rD,rB,reduceIte,t8,dD,aH])
        have one8:s'.cells=[s']∧s'.one=true:=Sl.one bf8.sl;refine cq bx8 cD (by rw [one8.1];rfl) (show 6+1≤7 by decide) (by rw [one8.1];simp [one8.2]) ?_;intro k9 b9 n9 f9;rw [one8.1] at b9;have b9:Has k9 xb (imV base bb N code 0 .nils .nils s'):=b9;refine ax ?_;(try simp only [aE,rL,rD,rB,reduceIte,t126,ct])
        refine ⟨_,?_,_,j+1,s',Nt++[nm],rfl,⟨by omega,fun b hb=>by rw [f9.ca b hb.2,f8.ca b ⟨by omega,fun o k cc e=>by have:=inj _ _ _ _ e;omega⟩,f7.ca b (by omega),fj.ca b hb]⟩,rfl,by omega,?_⟩
        ·omega
        (try simp only [aE,rL,rD,rB,reduceIte,t0,t1,t4,t5,t6,t8,t84,t85,t86,t124,t125])
        refine ⟨aD,aD,aD,aD,aD,aD,aD,aD,aD,aD,aD,?_,b9,?_,in8.sub,by simp;omega,hNt⟩
        ·rw [cy (by omega) (by omega)];rfl
        ·have:=bf8.fix (K:=(·≠xb)) (in8.sub) f9;simpa using this
     all_goals (try simp only [aE,rL,rD,rB,reduceIte,t0,t1,t4,t5,t6,t8,t84,t85,t86,t124,t125,t126])
     all_goals (first|done|rfl|trivial|simp)
    ·refine aF (WC.exit ?_);have:j=L[i].2.cf.length:=by omega
     subst this;rw [bU] at hNt;simp only [AD] at hNt;have aj:=a14.fix fj ⟨by omega,by omega⟩;(try simp only [aE,rL,rD,rB,reduceIte,nb2]);refine ap ?_;(try simp only [aE,rL,rD,rB,reduceIte,t86,ct])
     refine ⟨_,?_,_,i+1,bs2,nd,Nt,rfl,Gj,rfl,by omega,?_⟩
     ·omega
     (try simp only [aE,rL,rD,rB,reduceIte,t0,t1,t4,t5,t6,t8,t84,t85]);refine ⟨aD,aD,aD,aD,aD,aD,aD,aD,?_,bxj,aj,l14,hB,bfj,inj,by omega,hNt⟩;rw [cy (by omega) (by omega)];rfl
   all_goals (try simp only [aE,rL,rD,rB,reduceIte,t0,t1,t4,t5,t6,t8,t84,t85,t86])
   all_goals (first|done|rfl|trivial|simp)
  ·refine aF (WC.exit ?_);have:i=L.length:=by omega
   subst this;rw [bK (by omega)] at hB hNd;simp only [pg] at hB;simp only [gy] at hNd;have GA:Fix (·<h6.bX) hA hi:=fi.sub fun b hb=>⟨by omega,by omega,by omega⟩;obtain ⟨SL,hSL⟩:∃SL:Int,SL=base+(fM os:Nat):=⟨_,rfl⟩;obtain ⟨NM,hNM⟩:∃NM,NM=gL os []:=⟨_,rfl⟩;rw [←hSL,←hNM] at ph;have hTN:N=fM os+8 * NM.length:=by rw [hN,hNM];rfl
   have lNM:NM.length≤20 * 1000:=by
    have:=uU os [] fun o ho=>(lg.good o ho).nrel;rw [←hNM] at this;simp only [bD] at this;have h2:os.length * 1000≤20 * 1000:=Nat.mul_le_mul_right _ (by omega);omega
   have hT2:fM os≤131072:=by omega
   refine ax ?_;(try simp only [aE,rL,rD,rB,reduceIte,t0,Sl.lenB oi.sl gM rfl]);refine ao ?_
   refine WC.while (fun m fr hp=>∃ts i bsp,fr=⟨ts,352,[],18,none⟩∧Fix (fun b=>b<hi.bX∧b≠bb) hi hp∧m=L.length - i∧i≤L.length∧ts.get 0=some ls∧ts.get 1=some (.int .i64 base)∧ts.get 4=some (.ptr h.bX 0)∧ts.get 5=some (.ptr h1.bX 0)∧ts.get 6=some (.ptr kb 0)∧ts.get 8=some (.ptr xb 0)∧ts.get 154=some ls∧ts.get 155=some (.int .i64 L.length)∧ts.get 156=some (.int .i64 i)∧At hp bb 0 (bsp.map u8)∧bsp.length=N∧yx base SL os NM i (os.drop i) bsp=yx base SL os NM 0 os bs) ?_ ⟨_,0,bs,rfl,Fix.refl _ _,rfl,by omega,?_,?_,?_,?_,?_,?_,?_,?_,?_,bai,lbs,by simp⟩
   ·rintro m fr hp ⟨ts,i,bsp,rfl,fp,rfl,hil,t0,t1,t4,t5,t6,t8,t154,t155,t156,bap,lbp,hRL⟩
    have xp:=fp.bX;obtain ⟨rkp,_,_,op⟩:=ph hp (GA.trans (fp.sub fun b hb=>⟨by omega,by omega⟩));refine ap ?_;(try simp only [aE,rL,rD,rB,reduceIte,t155,t156]);refine aw ?_
    by_cases hli:i<L.length
    ·refine aG (WC.skip ?_);refine az ?_;obtain ⟨p,p1,p2⟩:=op.sl.at (fun _=>rfl) gM rfl eP rfl (by decide) rfl hli;have p2:=p2 hp fun _ _ _ _ _=>rfl;have obi:=op.ob _ (aP hli);have gdi:=lg.good _ (show L[i].2∈os by rw [←hoi i hli];exact aP _);have nri:=gdi.nrel;rw [da (by omega),hoi i hli] at hRL;simp only [yx] at hRL;refine ao ?_;refine ap ?_;(try simp only [aE,rL,rD,rB,reduceIte,t154,t156,p1,p2])
     refine cz eP ?_;intro h11 b11 n11 f11;refine az ?_;refine cq b11 eP rfl (aI 7) (Oc.one obi) ?_;intro h12 b12 n12 f12;have b12:Has h12 hp.bX [.str L[i].2.name,L[i].1.code,L[i].1.data,L[i].1.ce,L[i].1.ci,L[i].1.cf,.str L[i].2.entry]:=b12;have F12:cH hp h12:=⟨by omega,fun b hb=>by rw [f12.ca b (by omega),f11.ca b hb]⟩;have ob12:=obi.fix F12;have bb12:=bap.fix F12;have G12:Fix (fun b=>b<hi.bX∧b≠bb) hi h12:=fp.trans (F12.sub)
     refine ax ?_;(try simp only [aE,rL,rD,rB,reduceIte,iv,aH,b12.at gt rfl,Sl.lenB ob12.ci gt rfl]);refine ao ?_
     refine WC.while (fun m fr hj=>∃ts j bs2,fr=⟨ts,352,[],18,none⟩∧Fix (fun b=>b<h12.bX∧b≠bb) h12 hj∧m=L[i].2.ci.length - j∧j≤L[i].2.ci.length∧ts.get 0=some ls∧ts.get 1=some (.int .i64 base)∧ts.get 4=some (.ptr h.bX 0)∧ts.get 5=some (.ptr h1.bX 0)∧ts.get 6=some (.ptr kb 0)∧ts.get 8=some (.ptr xb 0)∧ts.get 16=some (.int .i64 i)∧ts.get 17=some (.ptr hp.bX 0)∧ts.get 154=some ls∧ts.get 155=some (.int .i64 L.length)∧ts.get 156=some (.int .i64 i)∧ts.get 162=some L[i].1.ci∧ts.get 163=some (.int .i64 L[i].2.ci.length)∧ts.get 164=some (.int .i64 j) ∧
      At hj bb 0 (bs2.map u8)∧bs2.length=N∧yx base SL os NM (i+1) (os.drop (i+1)) (CZ base SL os NM i L[i].2 (L[i].2.ci.drop j) bs2)=yx base SL os NM 0 os bs) ?_ ⟨_,0,bsp,rfl,Fix.refl _ _,rfl,by omega,?_,?_,?_,?_,?_,?_,?_,?_,?_,?_,?_,?_,?_,?_,bb12,lbp,by simpa using hRL⟩
     ·rintro m fr hj ⟨ts,j,bs2,rfl,fj,rfl,hjl,t0,t1,t4,t5,t6,t8,t16,t17,t154,t155,t156,t162,t163,t164,bbj,lbs2,hR⟩
      have xj:=fj.bX;have Gj:Fix (fun b=>b<hi.bX∧b≠bb) hi hj:=G12.trans (fj.sub fun b hb=>⟨by omega,hb.2⟩);obtain ⟨rkj,_,_,oj⟩:=ph hj (GA.trans (Gj.sub fun b hb=>⟨by omega,by omega⟩));have obj:=oj.ob _ (aP hli);have bxj:=bxi.fix Gj ⟨by omega,by omega⟩;refine ap ?_;(try simp only [aE,rL,rD,rB,reduceIte,t163,t164]);refine aw ?_
      by_cases hlj:j<L[i].2.ci.length
      ·refine aG (WC.skip ?_);refine az ?_;obtain ⟨p,p1,p2⟩:=obj.ci.at jh gt rfl ii rfl (by decide) rfl hlj;have p2:=p2 hj fun _ _ _ _ _=>rfl;have gr:=gdi.ci _ (aP hlj);rw [da hlj] at hR;simp only [CZ] at hR;generalize hr:L[i].2.ci[j]=r at p2 hR gr
       have hkn:fg r.sym L[i].2.ce=true:=by
        obtain ⟨s,hs,e⟩:=gr.known;obtain ⟨q,hq,e2⟩:=List.getElem_of_mem hs;exact ru hq (by rw [e2,e])
       have r1:=gr.s1;have r2:=gr.s2;have r3:=gr.o0;have r4:=gr.o1;have r5:=gr.a0;have r6:=gr.a1;have hA:=yi lg (i:=i) (by omega) (k:=r.sym) (by rw [hoi i hli];exact hkn);rw [hoi i hli] at hA;obtain ⟨sec,hsec⟩:∃sec:Nat,r.sec=(sec:Int):=⟨r.sec.toNat,by omega⟩
       have hst2:stO os r.sec.toNat i+r.off.toNat+4≤N:=by
        obtain e|e:r.sec=1∨r.sec=2:=by omega
        ·have:=mK (os:=os) (i:=i) (by omega);rw [hoi i hli] at this;rw [e] at r4 ⊢;have r4:r.off+4≤(L[i].2.code.length:Int):=by simpa [cU] using r4
         show stO os 1 i+r.off.toNat+4≤N;omega
        ·have:=mJ (os:=os) (i:=i) (by omega);rw [hoi i hli] at this;rw [e] at r4 ⊢;have r4:r.off+4≤(L[i].2.data.length:Int):=by simpa [cU] using r4
         show stO os 2 i+r.off.toNat+4≤N;omega
       have hsecT:r.sec.toNat=sec:=by omega
       obtain ⟨o3,cc3,sl3,so3⟩:=oT (g:=g) (b:=bb) (n:=N) (k:=.i64) cM rfl ty5 rfl (show stO os r.sec.toNat i+r.off.toNat≤N by omega);refine ao ?_;refine ap ?_;(try simp only [aE,rL,rD,rB,reduceIte,t162,t164,p1,p2]);refine cz ii ?_;intro k1 c1 m1 e1;refine az ?_;refine cq c1 ii rfl (aI 5) (oX r) ?_;intro k2 c2 m2 e2;have c2:Has k2 hj.bX [i64 r.sec,i64 r.off,i64 r.kind,.str r.sym,i64 r.add]:=c2;have E2:cH hj k2:=⟨by omega,fun b hb=>by rw [e2.ca b (by omega),e1.ca b hb]⟩
       have rk2:=(ph k2 (GA.trans ((Gj.trans (E2.sub)).sub fun b hb=>⟨by omega,by omega⟩))).1;have s3:=rk2.bs.at (E:=E g) ty2 rfl (i * 3+sec);rw [gw (by omega),jM (by omega) (by omega),hos] at s3;have ix3:cK (E g) 126 (.ptr stb (i * 3)) (.int .i64 sec)=some (.ptr stb (i * 3+sec)):=by have:=ke (g:=g) (b:=stb) (o:=i * 3) (k:=sec) (ik:=.i64) gK rfl ty2 (show sec<3 by omega);simpa using this
       obtain ⟨at0,hat⟩:∃at0:Int,at0=base+(stO os r.sec.toNat i:Nat)+r.off:=⟨_,rfl⟩
       have e36:IntKind.i64.wrap (base+(stO os sec i:Nat)+r.off)=at0:=by
        rw [show stO os sec i=stO os r.sec.toNat i by rw [hsecT],cy (by omega) (by omega),hat]
       refine az ?_
       ((repeat refine WC.seq ?_);refine WC.draw (plans:=EC) (by kernel_rfl) ?_;simp only [EC,ak])
       (try simp (maxSteps:=2000000) only [aE,rL,rD,rB,reduceIte,af,Chk,t6,t16,kX,je,jd,aH,rk2.bk.at eK rfl,c2.at ty3 rfl,c2.at ty2 rfl,hsec,i64,ef eK rfl gK hli,ix3,s3,ct,e36]);refine ap ?_;(try simp only [aE,rL,rD,rB,reduceIte,t6,t16,oo,aH,c2.at ty9 rfl]);refine (z7 rk2 (by rw [hos];exact lg) hli hkn).mono fun v k3 ⟨q3',e3⟩=>?_;rw [hos] at q3';subst q3';have y3:=e3.bX;have c3:=c2.fix e3;have E3:cH hj k3:=E2.trans (e3.sub)
       have rk3:=(ph k3 (GA.trans ((Gj.trans (E3.sub)).sub fun b hb=>⟨by omega,by omega⟩))).1;have bxk3:=bxj.fix E3;have bbk3:=bbj.fix E3;have Ek3:=E3;have hnv:yw base SL os NM i L[i].2 r=if r.kind=1 then (nH base os i L[i].2 r.sym).getD 0+r.add - at0 else if r.kind=2 then mO SL r.sym 0 NM+r.add else (nH base os i L[i].2 r.sym).getD 0+r.add:=by rw [hat];rfl
       generalize hav:(nH base os i L[i].2 r.sym)=av at *;(try simp only [aE,rL,rD,rB,reduceIte,resV]);refine ap ?_
       by_cases hk2:r.kind=2
       ·rw [if_neg (by omega),if_pos hk2] at hnv;(try simp only [aE,rL,rD,rB,reduceIte,jc,aH,c3.at ty3 rfl,i64,jL,nf hk2]);refine aw ?_;refine aG ?_;refine ax ?_;(try simp only [aE,rL,rD,rB,reduceIte,t6,oo,aH,c3.at ty9 rfl]);refine (wB rk3 (by omega) (by omega) (by omega)).mono fun v k4 ⟨q4',e4⟩=>?_;subst q4';have y4:=e4.bX;have c4:=c3.fix e4;have Ek4:cH hj k4:=E3.trans (e4.sub);have bxk4:=bxj.fix Ek4
        have bbk4:=bbj.fix Ek4;have hslb:=wh (cb:=SL) (by omega) (k:=r.sym) (N:=NM) (j:=0);generalize hsv:mO SL r.sym 0 NM=sv at *;have w40:IntKind.i64.wrap (sv+r.add)=yw base SL os NM i L[i].2 r:=by rw [cy (by omega) (by omega),hnv]
        generalize yw base SL os NM i L[i].2 r=nv at *;refine ax ?_;(try simp only [aE,rL,rD,rB,reduceIte,jw,aH,c4.at ty2 rfl,i64,ct,w40]);refine ap ?_;(try simp only [aE,rL,rD,rB,reduceIte,jc,aH,c4.at ty3 rfl,i64,jL,li (show ¬r.kind=1 by omega)]);refine aw ?_;refine aF (WC.skip ?_);refine az ?_;have s43:IntKind.i64.wrap (at0 - base)=((stO os r.sec.toNat i+r.off.toNat:Nat):Int):=by rw [cy (by omega) (by omega)];omega
        ((repeat refine WC.seq ?_);refine WC.draw (plans:=ri) (by kernel_rfl) ?_;simp only [ri,ak])
        (try simp (maxSteps:=2000000) only [aE,rL,rD,rB,reduceIte,af,Chk,t1,t8,dW,aH,bxk4.at cM rfl,cF,s43,sl3]);refine (uh (xs:=[]) (n:=nv) (k:=4) .nil (fun b o n c e=>by cases e) (by omega) (by simp)).mono fun v k6 gr=>?_;have y6:=gr.fix.bX;have e6:cH k4 k6:=gr.fix.sub fun b hb=>⟨hb,fun o m cc e=>by cases e⟩;have bx6:=bxk4.fix e6;have bb6:=bbk4.fix e6;(try simp (maxSteps:=2000000) only [aE,rL,rD,rB,reduceIte,af,Chk,t1,t8,dW,aH,bx6.at cM rfl,cF,s43,sl3])
        refine nU (xs:=leB (U nv) 4) bb6 (by rw [dw];omega) lbs2 so3 (by simpa using gr.buf.sl) ?_;intro v7 k7 a7 m7 e7;have l7:(er bs2 (stO os r.sec.toNat i+r.off.toNat) (leB (U nv) 4)).length=N:=by rw [dP (by rw [dw];omega),lbs2]
        have bx7:=bx6.fix e7;(try simp (maxSteps:=2000000) only [aE,rL,rD,rB,reduceIte,af,Chk,t1,t8,dW,aH,bx7.at cM rfl,cF,s43,sl3]);refine ap ?_;(try simp only [aE,rL,rD,rB,reduceIte,t164,ct])
        refine ⟨_,?_,_,j+1,er bs2 (stO os r.sec.toNat i+r.off.toNat) (leB (U nv) 4),rfl,⟨by omega,fun b hb=>by rw [e7.ca b hb.2,e6.ca b (by omega),Ek4.ca b (by omega),fj.ca b hb]⟩,rfl,by omega,?_⟩
        ·omega
        (try simp only [aE,rL,rD,rB,reduceIte,t0,t1,t4,t5,t6,t8,t16,t17,t154,t155,t156,t162,t163]);refine ⟨aD,aD,aD,aD,aD,aD,aD,aD,aD,aD,aD,aD,aD,?_,a7,l7,hR⟩;rw [cy (by omega) (by omega)];rfl
       ·(try simp only [aE,rL,rD,rB,reduceIte,jc,aH,c3.at ty3 rfl,i64,jL,li hk2]);refine aw ?_;refine aF (WC.skip ?_);refine ax ?_
        by_cases hk1:r.kind=1
        ·rw [if_pos hk1] at hnv;have w40:IntKind.i64.wrap (av.getD 0+r.add)=av.getD 0+r.add:=cy (by omega) (by omega);have w42:IntKind.i64.wrap (av.getD 0+r.add - at0)=yw base SL os NM i L[i].2 r:=by rw [cy (by omega) (by omega),hnv]
         generalize yw base SL os NM i L[i].2 r=nv at *;(try simp only [aE,rL,rD,rB,reduceIte,jw,aH,c3.at ty2 rfl,i64,ct,w40]);refine ap ?_;(try simp only [aE,rL,rD,rB,reduceIte,jc,aH,c3.at ty3 rfl,i64,jL,nf hk1]);refine aw ?_;refine aG ?_;refine ax ?_;(try simp only [aE,rL,rD,rB,reduceIte,cF,w42]);have s43:IntKind.i64.wrap (at0 - base)=((stO os r.sec.toNat i+r.off.toNat:Nat):Int):=by rw [cy (by omega) (by omega)];omega
         ((repeat refine WC.seq ?_);refine WC.draw (plans:=ri) (by kernel_rfl) ?_;simp only [ri,ak])
         (try simp (maxSteps:=2000000) only [aE,rL,rD,rB,reduceIte,af,Chk,t1,t8,dW,aH,bxk3.at cM rfl,cF,s43,sl3]);refine (uh (xs:=[]) (n:=nv) (k:=4) .nil (fun b o n c e=>by cases e) (by omega) (by simp)).mono fun v k6 gr=>?_;have y6:=gr.fix.bX;have e6:cH k3 k6:=gr.fix.sub fun b hb=>⟨hb,fun o m cc e=>by cases e⟩;have bx6:=bxk3.fix e6;have bb6:=bbk3.fix e6;(try simp (maxSteps:=2000000) only [aE,rL,rD,rB,reduceIte,af,Chk,t1,t8,dW,aH,bx6.at cM rfl,cF,s43,sl3])
         refine nU (xs:=leB (U nv) 4) bb6 (by rw [dw];omega) lbs2 so3 (by simpa using gr.buf.sl) ?_;intro v7 k7 a7 m7 e7;have l7:(er bs2 (stO os r.sec.toNat i+r.off.toNat) (leB (U nv) 4)).length=N:=by rw [dP (by rw [dw];omega),lbs2]
         have bx7:=bx6.fix e7;(try simp (maxSteps:=2000000) only [aE,rL,rD,rB,reduceIte,af,Chk,t1,t8,dW,aH,bx7.at cM rfl,cF,s43,sl3]);refine ap ?_;(try simp only [aE,rL,rD,rB,reduceIte,t164,ct])
         refine ⟨_,?_,_,j+1,er bs2 (stO os r.sec.toNat i+r.off.toNat) (leB (U nv) 4),rfl,⟨by omega,fun b hb=>by rw [e7.ca b hb.2,e6.ca b (by omega),Ek3.ca b (by omega),fj.ca b hb]⟩,rfl,by omega,?_⟩
         ·omega
         (try simp only [aE,rL,rD,rB,reduceIte,t0,t1,t4,t5,t6,t8,t16,t17,t154,t155,t156,t162,t163]);refine ⟨aD,aD,aD,aD,aD,aD,aD,aD,aD,aD,aD,aD,aD,?_,a7,l7,hR⟩;rw [cy (by omega) (by omega)];rfl
        ·rw [if_neg hk1,if_neg hk2] at hnv;have w40:IntKind.i64.wrap (av.getD 0+r.add)=yw base SL os NM i L[i].2 r:=by rw [cy (by omega) (by omega),hnv]
         generalize yw base SL os NM i L[i].2 r=nv at *;(try simp only [aE,rL,rD,rB,reduceIte,jw,aH,c3.at ty2 rfl,i64,ct,w40]);refine ap ?_;(try simp only [aE,rL,rD,rB,reduceIte,jc,aH,c3.at ty3 rfl,i64,jL,li hk1]);refine aw ?_;refine aF (WC.skip ?_);refine az ?_;have s43:IntKind.i64.wrap (at0 - base)=((stO os r.sec.toNat i+r.off.toNat:Nat):Int):=by rw [cy (by omega) (by omega)];omega
         ((repeat refine WC.seq ?_);refine WC.draw (plans:=ri) (by kernel_rfl) ?_;simp only [ri,ak])
         (try simp (maxSteps:=2000000) only [aE,rL,rD,rB,reduceIte,af,Chk,t1,t8,dW,aH,bxk3.at cM rfl,cF,s43,sl3]);refine (uh (xs:=[]) (n:=nv) (k:=4) .nil (fun b o n c e=>by cases e) (by omega) (by simp)).mono fun v k6 gr=>?_;have y6:=gr.fix.bX;have e6:cH k3 k6:=gr.fix.sub fun b hb=>⟨hb,fun o m cc e=>by cases e⟩;have bx6:=bxk3.fix e6;have bb6:=bbk3.fix e6;(try simp (maxSteps:=2000000) only [aE,rL,rD,rB,reduceIte,af,Chk,t1,t8,dW,aH,bx6.at cM rfl,cF,s43,sl3])
         refine nU (xs:=leB (U nv) 4) bb6 (by rw [dw];omega) lbs2 so3 (by simpa using gr.buf.sl) ?_;intro v7 k7 a7 m7 e7;have l7:(er bs2 (stO os r.sec.toNat i+r.off.toNat) (leB (U nv) 4)).length=N:=by rw [dP (by rw [dw];omega),lbs2]
         have bx7:=bx6.fix e7;(try simp (maxSteps:=2000000) only [aE,rL,rD,rB,reduceIte,af,Chk,t1,t8,dW,aH,bx7.at cM rfl,cF,s43,sl3]);refine ap ?_;(try simp only [aE,rL,rD,rB,reduceIte,t164,ct])
         refine ⟨_,?_,_,j+1,er bs2 (stO os r.sec.toNat i+r.off.toNat) (leB (U nv) 4),rfl,⟨by omega,fun b hb=>by rw [e7.ca b hb.2,e6.ca b (by omega),Ek3.ca b (by omega),fj.ca b hb]⟩,rfl,by omega,?_⟩
         ·omega
         (try simp only [aE,rL,rD,rB,reduceIte,t0,t1,t4,t5,t6,t8,t16,t17,t154,t155,t156,t162,t163]);refine ⟨aD,aD,aD,aD,aD,aD,aD,aD,aD,aD,aD,aD,aD,?_,a7,l7,hR⟩;rw [cy (by omega) (by omega)];rfl
      ·refine aF (WC.exit ?_);have:j=L[i].2.ci.length:=by omega
       subst this;rw [bU] at hR;simp only [CZ] at hR;(try simp only [aE,rL,rD,rB,reduceIte,nb8]);refine ap ?_;(try simp only [aE,rL,rD,rB,reduceIte,t156,ct])
       refine ⟨_,?_,_,i+1,bs2,rfl,Gj,rfl,by omega,?_⟩
       ·omega
       (try simp only [aE,rL,rD,rB,reduceIte,t0,t1,t4,t5,t6,t8,t154,t155]);refine ⟨aD,aD,aD,aD,aD,aD,aD,aD,?_,bbj,lbs2,hR⟩;rw [cy (by omega) (by omega)];rfl
     all_goals (try simp only [aE,rL,rD,rB,reduceIte,t0,t1,t4,t5,t6,t8,t154,t155,t156])
     all_goals (first|done|rfl|trivial|simp)
    ·refine aF (WC.exit ?_);have:i=L.length:=by omega
     subst this;rw [bK (by omega)] at hRL;simp only [yx] at hRL;rw [hB] at hRL;have GP:Fix (·<h6.bX) hA hp:=GA.trans (fp.sub fun b hb=>⟨by omega,by omega⟩);have bxp:=bxi.fix fp ⟨by omega,by omega⟩;have bfp:=bfi.fix (K:=fun b=>b<hi.bX∧b≠bb) (ini.sub fun b hb=>⟨by omega,by omega⟩) fp;have inp:In (fun b=>hA.bX≤b∧b<hp.bX) nd:=ini.sub;have hnd:Nd=gy os []:=by simpa [gy] using hNd
     (try simp only [aE,rL,rD,rB,reduceIte,nb6,nb4,nb8]);refine au ?_;refine ap ?_;(try simp only [aE,rL,rD,rB,reduceIte,t0,Sl.lenB op.sl gM rfl]);refine ao ?_
     refine WC.while (fun m fr hc=>∃ts i nv K,fr=⟨ts,352,[],18,none⟩∧cH hp hc∧m=L.length - i∧i≤L.length∧ts.get 0=some ls∧ts.get 1=some (.int .i64 base)∧ts.get 4=some (.ptr h.bX 0)∧ts.get 5=some (.ptr h1.bX 0)∧ts.get 6=some (.ptr kb 0)∧ts.get 8=some (.ptr xb 0)∧ts.get 24=some nv∧ts.get 217=some ls∧ts.get 218=some (.int .i64 L.length)∧ts.get 219=some (.int .i64 i)∧Ss g hc nv K∧In (fun b=>hp.bX≤b∧b<hc.bX) nv∧K.length≤i * 500∧tf (os.drop i) K=tf os []) ?_ ⟨_,0,.nils,[],rfl,Fix.refl _ _,rfl,by omega,?_,?_,?_,?_,?_,?_,?_,?_,?_,?_,Sl.nil,(fun b o n c e=>by cases e),by simp,by simp⟩
     ·rintro m fr hc ⟨ts,i,nv,K,rfl,fc,rfl,hil,t0,t1,t4,t5,t6,t8,t24,t217,t218,t219,ssc,inc,lK,hK⟩
      have xc:=fc.bX;obtain ⟨rkc,_,_,oc⟩:=ph hc (GP.trans (fc.sub));refine ap ?_;(try simp only [aE,rL,rD,rB,reduceIte,t218,t219]);refine aw ?_
      by_cases hli:i<L.length
      ·refine aG (WC.skip ?_);refine az ?_;obtain ⟨p,p1,p2⟩:=oc.sl.at (fun _=>rfl) gM rfl eP rfl (by decide) rfl hli;have p2:=p2 hc fun _ _ _ _ _=>rfl;have obi:=oc.ob _ (aP hli);have gdi:=lg.good _ (show L[i].2∈os by rw [←hoi i hli];exact aP _);have nsi:=gdi.nsym;rw [da (by omega),hoi i hli] at hK;simp only [tf] at hK;refine ao ?_;refine ap ?_;(try simp only [aE,rL,rD,rB,reduceIte,t217,t219,p1,p2])
       refine cz eP ?_;intro h11 b11 n11 f11;refine az ?_;refine cq b11 eP rfl (aI 7) (Oc.one obi) ?_;intro h12 b12 n12 f12;have b12:Has h12 hc.bX [.str L[i].2.name,L[i].1.code,L[i].1.data,L[i].1.ce,L[i].1.ci,L[i].1.cf,.str L[i].2.entry]:=b12;have F12:cH hc h12:=⟨by omega,fun b hb=>by rw [f12.ca b (by omega),f11.ca b hb]⟩;have ob12:=obi.fix F12;have ss12:=Sl.fix ssc inc (F12.sub fun b hb=>hb.2);refine ax ?_
       (try simp only [aE,rL,rD,rB,reduceIte,iw,aH,b12.at gu rfl,Sl.lenB ob12.ce gu rfl]);refine ao ?_
       refine WC.while (fun m fr hj=>∃ts j nv K,fr=⟨ts,352,[],18,none⟩∧cH h12 hj∧m=L[i].2.ce.length - j∧j≤L[i].2.ce.length∧ts.get 0=some ls∧ts.get 1=some (.int .i64 base)∧ts.get 4=some (.ptr h.bX 0)∧ts.get 5=some (.ptr h1.bX 0)∧ts.get 6=some (.ptr kb 0)∧ts.get 8=some (.ptr xb 0)∧ts.get 24=some nv∧ts.get 217=some ls∧ts.get 218=some (.int .i64 L.length)∧ts.get 219=some (.int .i64 i)∧ts.get 224=some L[i].1.ce∧ts.get 225=some (.int .i64 L[i].2.ce.length)∧ts.get 226=some (.int .i64 j) ∧
        Ss g hj nv K∧In (fun b=>hp.bX≤b∧b<hj.bX) nv∧K.length≤i * 500+j∧tf (os.drop (i+1)) (yE (L[i].2.ce.drop j) K)=tf os []) ?_ ⟨_,0,nv,K,rfl,Fix.refl _ _,rfl,by omega,?_,?_,?_,?_,?_,?_,?_,?_,?_,?_,?_,?_,?_,ss12,inc.sub fun b hb=>⟨hb.1,by omega⟩,by omega,by simpa using hK⟩
       ·rintro m fr hj ⟨ts,j,nv,K,rfl,fj,rfl,hjl,t0,t1,t4,t5,t6,t8,t24,t217,t218,t219,t224,t225,t226,ssj,inj,lK,hK⟩
        have xj:=fj.bX;have obj:=ob12.fix fj;refine ap ?_;(try simp only [aE,rL,rD,rB,reduceIte,t225,t226]);refine aw ?_
        by_cases hlj:j<L[i].2.ce.length
        ·refine aG (WC.skip ?_);refine az ?_;obtain ⟨p,p1,p2⟩:=obj.ce.at jU gu rfl eg rfl (by decide) rfl hlj;have p2:=p2 hj fun _ _ _ _ _=>rfl;rw [da hlj] at hK;simp only [yE] at hK;generalize hs:L[i].2.ce[j]=s at p2 hK;refine ao ?_;refine ap ?_;(try simp only [aE,rL,rD,rB,reduceIte,t224,t226,p1,p2]);refine cz eg ?_;intro h7 b7 n7 f7;refine az ?_;refine cq b7 eg rfl (aI 5) (jD s) ?_;intro h8 b8 n8 f8
         have b8:Has h8 hj.bX [.str s.name,i64 s.sec,i64 s.off,.bool s.cn,.bool s.cm]:=b8;have F8:cH hj h8:=⟨by omega,fun b hb=>by rw [f8.ca b (by omega),f7.ca b hb]⟩;have ss8:=Sl.fix ssj inj (F8.sub fun b hb=>hb.2);refine ax ?_
         cases hg1:s.cn with
         | false =>
          rw [if_neg (by rw [hg1];simp)] at hK;(try simp only [aE,rL,rD,rB,reduceIte,eC,dz,aH,b8.at ty4 rfl,hg1,un,i64]);refine aw ?_;refine aF (WC.skip ?_);refine ax ?_;(try simp only [aE,rL,rD,rB,reduceIte,t226,ct])
          refine ⟨_,?_,_,j+1,nv,K,rfl,⟨by omega,fun b hb=>by rw [F8.ca b (by omega),fj.ca b hb]⟩,rfl,by omega,?_⟩
          ·omega
          (try simp only [aE,rL,rD,rB,reduceIte,t0,t1,t4,t5,t6,t8,t24,t217,t218,t219,t224,t225]);refine ⟨aD,aD,aD,aD,aD,aD,aD,aD,aD,aD,aD,aD,?_,ss8,inj.sub fun b hb=>⟨by omega,by omega⟩,by omega,hK⟩;rw [cy (by omega) (by omega)];rfl
         | true =>
          by_cases hg2:0<s.sec
          ·rw [if_pos ⟨hg1,hg2⟩] at hK;(try simp only [aE,rL,rD,rB,reduceIte,eC,dz,aH,b8.at ty4 rfl,b8.at ty3 rfl,hg1,un,i64,gX,aJ hg2]);refine aw ?_;refine aG ?_;refine ax ?_;(try simp only [aE,rL,rD,rB,reduceIte,t24,ry,aH,b8.at ty9 rfl]);refine (zm ss8 (inj.sub (L:=fun b=>hp.bX≤b∧b<h8.bX) fun b hb=>⟨hb.1,by omega⟩) (fun b hb=>hb.2) (by omega)).mono fun v h9 ⟨ss9,in9,f9⟩=>?_;have x9:=f9.bX;refine ax ?_
           (try simp only [aE,rL,rD,rB,reduceIte,t226,ct]);have hl:=oh s.name K
           refine ⟨_,?_,_,j+1,v,pn s.name K,rfl,⟨by omega,fun b hb=>by rw [f9.ca b (by omega),F8.ca b (by omega),fj.ca b hb]⟩,rfl,by omega,?_⟩
           ·omega
           (try simp only [aE,rL,rD,rB,reduceIte,t0,t1,t4,t5,t6,t8,t217,t218,t219,t224,t225]);refine ⟨aD,aD,aD,aD,aD,aD,aD,aD,aD,aD,aD,aD,?_,ss9,in9.sub fun b hb=>⟨by omega,by omega⟩,by omega,hK⟩;rw [cy (by omega) (by omega)];rfl
          ·rw [if_neg (fun q=>hg2 q.2)] at hK;(try simp only [aE,rL,rD,rB,reduceIte,eC,dz,aH,b8.at ty4 rfl,b8.at ty3 rfl,hg1,un,i64,gX,aK hg2]);refine aw ?_;refine aF (WC.skip ?_);refine ax ?_;(try simp only [aE,rL,rD,rB,reduceIte,t226,ct])
           refine ⟨_,?_,_,j+1,nv,K,rfl,⟨by omega,fun b hb=>by rw [F8.ca b (by omega),fj.ca b hb]⟩,rfl,by omega,?_⟩
           ·omega
           (try simp only [aE,rL,rD,rB,reduceIte,t0,t1,t4,t5,t6,t8,t24,t217,t218,t219,t224,t225]);refine ⟨aD,aD,aD,aD,aD,aD,aD,aD,aD,aD,aD,aD,?_,ss8,inj.sub fun b hb=>⟨by omega,by omega⟩,by omega,hK⟩;rw [cy (by omega) (by omega)];rfl
        ·refine aF (WC.exit ?_);have:j=L[i].2.ce.length:=by omega
         subst this;rw [bU] at hK;simp only [yE] at hK;(try simp only [aE,rL,rD,rB,reduceIte,nb12]);refine ap ?_;(try simp only [aE,rL,rD,rB,reduceIte,t219,ct])
         refine ⟨_,?_,_,i+1,nv,K,rfl,⟨by omega,fun b hb=>by rw [fj.ca b (by omega),F12.ca b (by omega),fc.ca b hb]⟩,rfl,by omega,?_⟩
         ·omega
         (try simp only [aE,rL,rD,rB,reduceIte,t0,t1,t4,t5,t6,t8,t24,t217,t218]);refine ⟨aD,aD,aD,aD,aD,aD,aD,aD,aD,?_,ssj,inj,by omega,hK⟩;rw [cy (by omega) (by omega)];rfl
       all_goals (try simp only [aE,rL,rD,rB,reduceIte,t0,t1,t4,t5,t6,t8,t24,t217,t218,t219])
       all_goals (first|done|rfl|trivial|simp)
      ·refine aF (WC.exit ?_);have:i=L.length:=by omega
       subst this;rw [bK (by omega)] at hK;simp only [tf] at hK;have GC:Fix (·<h6.bX) hA hc:=GP.trans (fc.sub);have bxc:=bxp.fix fc;have bac:=bap.fix fc;have bfc:=bfp.fix (K:=(·<hp.bX)) (inp.sub fun b hb=>hb.2) fc;have inC:In (fun b=>hA.bX≤b∧b<hc.bX) nd:=inp.sub;have lK2:K.length≤10000:=by omega
       (try simp only [aE,rL,rD,rB,reduceIte,nb10]);refine ap ?_;(try simp only [aE,rL,rD,rB,reduceIte,t24,Sl.lenB ssc cD rfl]);refine ao ?_
       refine WC.while (fun m fr hd=>∃ts j ex,fr=⟨ts,352,[],18,none⟩∧Fix (fun b=>b<hc.bX∧b≠xb) hc hd∧m=K.length - j∧j≤K.length∧ts.get 0=some ls∧ts.get 1=some (.int .i64 base)∧ts.get 4=some (.ptr h.bX 0)∧ts.get 5=some (.ptr h1.bX 0)∧ts.get 6=some (.ptr kb 0)∧ts.get 8=some (.ptr xb 0)∧ts.get 243=some nv∧ts.get 244=some (.int .i64 K.length)∧ts.get 245=some (.int .i64 j)∧Has hd xb (imV base bb N code 0 ex .nils nd)∧Buf (E g) hd 135 2 ex j (((nV base os K).take j).flatMap nk)∧In (fun b=>hc.bX≤b∧b<hd.bX) ex) ?_ ⟨_,0,.nils,rfl,Fix.refl _ _,rfl,by omega,?_,?_,?_,?_,?_,?_,?_,?_,?_,bxc,Buf.nil,In.nils⟩
       ·rintro m fr hd ⟨ts,j,ex,rfl,fd,rfl,hjl,t0,t1,t4,t5,t6,t8,t243,t244,t245,bxd,bfd,ind⟩
        have xd:=fd.bX;obtain ⟨rkd,_,_,od⟩:=ph hd (GC.trans (fd.sub));have ssd:Ss g hd nv K:=Sl.fix ssc (inc.sub) fd;refine ap ?_;(try simp only [aE,rL,rD,rB,reduceIte,t244,t245]);refine aw ?_
        by_cases hlj:j<K.length
        ·refine aG (WC.skip ?_);refine az ?_;obtain ⟨p,p1,p2⟩:=ssd.at cD rfl ty9 rfl rfl hlj;have p2:=p2 hd fun _ _ _ _ _=>rfl;have hgb:=sX lg K[j];have hX:(nV base os K)[j]'(by simpa [nV] using hlj)=⟨K[j],(nL base os K[j]).getD 0⟩:=by simp [nV]
         generalize hkj:K[j]=kj at p2 hgb hX;refine ao ?_;refine ap ?_;(try simp only [aE,rL,rD,rB,reduceIte,t243,t245,p1,p2]);refine ap ?_;(try simp only [aE,rL,rD,rB,reduceIte,t6]);refine (uy rkd (by rw [hos];exact lg)).mono fun v h3 ⟨q3,f3⟩=>?_;rw [hos] at q3;subst q3;generalize hgv:(nL base os kj).getD 0=gv at hX hgb;have x3:=f3.bX;have bx3:=bxd.fix f3;have bf3:=bfd.fix (K:=(·<hd.bX)) (ind.sub fun b hb=>hb.2) f3
         (try simp only [aE,rL,rD,rB,reduceIte,resV,hgv]);refine ap ?_;(try simp only [aE,rL,rD,rB,reduceIte,t8,dE,aH,bx3.at dC rfl,i64,bld135]);refine de (cs:=nk ⟨kj,gv⟩) dC rfl nN rfl (by decide) (by decide) (fill2 (lj _)) rfl ?_;intro h7 bl n7 f7;have bx7:=bx3.fix f7;have bf7:=bf3.fix (K:=(·<h3.bX)) (ind.sub) f7;refine az ?_;refine df (m:=1) (ws:=nk ⟨kj,gv⟩) bf7 dC rfl dC (.inl ⟨_,rfl⟩) nN rfl (by decide) (by decide) (Sl.len bl.sl) (Sl.cells bl.sl) rfl (Ci _) (show (j+1) * 24≤140737488355328 by omega) (ind.sub) ?_
         intro s' h8 bf8 i8 o8 f8;have x8:=f8.bX;have bx8:=bx7.fix f8 ⟨by omega,fun o k cc e=>by have:=ind _ _ _ _ e;omega⟩;have in8:=rn (hi:=hd.bX) ind o8 (by omega) i8;(try simp only [aE,rL,rD,rB,reduceIte,t8,dE,aH]);have one8:s'.cells=[s']∧s'.one=true:=Sl.one bf8.sl;refine cq bx8 dC (by rw [one8.1];rfl) (show 4+1≤7 by decide) (by rw [one8.1];simp [one8.2]) ?_;intro h9 b9 n9 f9;rw [one8.1] at b9;have b9:Has h9 xb (imV base bb N code 0 s' .nils nd):=b9
         refine ax ?_;(try simp only [aE,rL,rD,rB,reduceIte,t245,ct])
         refine ⟨_,?_,_,j+1,s',rfl,⟨by omega,fun b hb=>by rw [f9.ca b hb.2,f8.ca b ⟨by omega,fun o k cc e=>by have:=ind _ _ _ _ e;omega⟩,f7.ca b (by omega),f3.ca b (by omega),fd.ca b hb]⟩,rfl,by omega,?_⟩
         ·omega
         (try simp only [aE,rL,rD,rB,reduceIte,t0,t1,t4,t5,t6,t8,t243,t244])
         refine ⟨aD,aD,aD,aD,aD,aD,aD,aD,?_,b9,?_,in8.sub⟩
         ·rw [cy (by omega) (by omega)];rfl
         ·rw [qX (by simpa [nV] using hlj),hX];exact bf8.fix (K:=(·≠xb)) (in8.sub) f9
        ·refine aF (WC.exit ?_);have:j=K.length:=by omega
         subst this;have hXl:(nV base os K).length=K.length:=by simp [nV]
         rw [bT (by omega)] at bfd;have GD:Fix (·<h6.bX) hA hd:=GC.trans (fd.sub);have bad:=bac.fix fd ⟨by omega,fun e=>bx e⟩;have bnd:=bfc.fix (K:=fun b=>b<hc.bX∧b≠xb) (inC.sub) fd;have exd:Sl (E g) hd 2 ex (nV base os K).length ((nV base os K).flatMap nk):=by rw [hXl];exact bfd.sl
         (try simp only [aE,rL,rD,rB,reduceIte,nb14]);refine ap ?_;(try simp only [aE,rL,rD,rB,reduceIte,t6,tQ,aH,rkd.bk.at cD rfl,Sl.lenB rkd.ss cD rfl]);refine ao ?_
         refine WC.while (fun m fr he=>∃ts j sl bs2,fr=⟨ts,352,[],18,none⟩∧Fix (fun b=>b<hd.bX∧b≠xb∧b≠bb) hd he∧m=NM.length - j∧j≤NM.length∧ts.get 0=some ls∧ts.get 1=some (.int .i64 base)∧ts.get 4=some (.ptr h.bX 0)∧ts.get 5=some (.ptr h1.bX 0)∧ts.get 6=some (.ptr kb 0)∧ts.get 8=some (.ptr xb 0)∧ts.get 267=some nm∧ts.get 268=some (.int .i64 NM.length)∧ts.get 269=some (.int .i64 j)∧Has he xb (imV base bb N code 0 ex sl nd)∧Buf (E g) he 136 3 sl j (((iT base SL os NM NM).take j).flatMap fU)∧In (fun b=>hd.bX≤b∧b<he.bX) sl∧At he bb 0 (bs2.map u8)∧bs2.length=N∧sZ base ((iT base SL os NM NM).drop j) bs2=sZ base (iT base SL os NM NM) bsp) ?_ ⟨_,0,.nils,bsp,rfl,Fix.refl _ _,rfl,by omega,?_,?_,?_,?_,?_,?_,?_,?_,?_,bxd,Buf.nil,In.nils,bad,lbp,rfl⟩
         ·rintro m fr he ⟨ts,j,sl,bs2,rfl,fe,rfl,hjl,t0,t1,t4,t5,t6,t8,t267,t268,t269,bxe,bfe,ine,bae,lbe,hF2⟩
          have xe:=fe.bX;have GE:=GD.trans (fe.sub);obtain ⟨rke,_,_,oe⟩:=ph he GE;refine ap ?_;(try simp only [aE,rL,rD,rB,reduceIte,t268,t269]);refine aw ?_
          by_cases hlj:j<NM.length
          ·refine aG (WC.skip ?_);refine az ?_;obtain ⟨p,p1,p2⟩:=rke.ss.at cD rfl ty9 rfl rfl hlj;have p2:=p2 he fun _ _ _ _ _=>rfl;have hgb:=sX lg NM[j];have hX:(iT base SL os NM NM)[j]'(by simpa [iT] using hlj)=⟨NM[j],mO SL NM[j] 0 NM,(nL base os NM[j]).getD 0⟩:=by simp [iT]
           obtain ⟨q,hq,hsl⟩:=A7 (cb:=SL) (j:=0) (aP hlj);rw [aH] at hsl;rw [da (by simpa [iT] using hlj),hX] at hF2;simp only [sZ] at hF2;generalize hkj:NM[j]=kj at p2 hgb hX hsl hF2;refine ao ?_;refine ap ?_;(try simp only [aE,rL,rD,rB,reduceIte,t267,t269,p1,p2]);refine ap ?_;(try simp only [aE,rL,rD,rB,reduceIte,t6]);refine (uy rke (by rw [hos];exact lg)).mono fun v h3 ⟨q3,f3⟩=>?_;rw [hos] at q3
           subst q3;generalize hgv:(nL base os kj).getD 0=gv at hX hgb hF2;generalize hsv:mO SL kj 0 NM=sv at hX hsl hF2;have x3:=f3.bX;have bx3:=bxe.fix f3;have bf3:=bfe.fix (K:=(·<he.bX)) (ine.sub fun b hb=>hb.2) f3;have bb3:=bae.fix f3;have G3:=GE.trans (f3.sub);have rk3:=(ph h3 G3).1;(try simp only [aE,rL,rD,rB,reduceIte,resV,hgv])
           ((repeat refine WC.seq ?_);refine WC.draw (plans:=EB) (by kernel_rfl) ?_;simp only [EB,ak])
           (try simp (maxSteps:=2000000) only [aE,rL,rD,rB,reduceIte,af,Chk,t6,t8,dx,aH,bx3.at dp rfl]);refine (wB rk3 (by omega) (by omega) (by omega)).mono fun v h4 ⟨q4,f4⟩=>?_;rw [hsv] at q4;subst q4;have x4:=f4.bX;have bx4:=bx3.fix f4;have bf4:=bf3.fix (K:=(·<h3.bX)) (ine.sub) f4;have bb4:=bb3.fix f4;(try simp (maxSteps:=2000000) only [aE,rL,rD,rB,reduceIte,af,Chk,t6,t8,dx,aH,bx4.at dp rfl,i64,bld136])
           refine de (cs:=fU ⟨kj,sv,gv⟩) dp rfl kZ rfl (by decide) (by decide) (fill3 (iE _)) rfl ?_;intro h7 bl n7 f7;have bx7:=bx4.fix f7;have bf7:=bf4.fix (K:=(·<h4.bX)) (ine.sub) f7;have bb7:=bb4.fix f7;(try simp (maxSteps:=2000000) only [aE,rL,rD,rB,reduceIte,af,Chk,t6,t8,dx,aH,bx7.at dp rfl]);refine df (m:=1) (ws:=fU ⟨kj,sv,gv⟩) bf7 dp rfl dp (.inl ⟨_,rfl⟩) kZ rfl (by decide) (by decide) (Sl.len bl.sl) (Sl.cells bl.sl) rfl (ub _) (show (j+1) * 32≤140737488355328 by omega) (ine.sub) ?_
           intro s' h8 bf8 i8 o8 f8;have x8:=f8.bX;have bx8:=bx7.fix f8 ⟨by omega,fun o k cc e=>by have:=ine _ _ _ _ e;omega⟩;have bb8:=bb7.fix f8 ⟨by omega,fun o k cc e=>by have:=ine _ _ _ _ e;omega⟩;have in8:=rn (hi:=he.bX) ine o8 (by omega) i8;(try simp (maxSteps:=2000000) only [aE,rL,rD,rB,reduceIte,af,Chk,t6,t8,dx,aH,bx8.at dp rfl]);have one8:s'.cells=[s']∧s'.one=true:=Sl.one bf8.sl;refine cq bx8 dp (by rw [one8.1];rfl) (show 5+1≤7 by decide) (by rw [one8.1];simp [one8.2]) ?_
           intro h9 b9 n9 f9;rw [one8.1] at b9;have b9:Has h9 xb (imV base bb N code 0 ex s' nd):=b9;have bb9:=bb8.fix f9 (fun e=>bx e);have bf9:=bf8.fix (K:=(·≠xb)) (in8.sub) f9;have F9:Fix (fun b=>b<hd.bX∧b≠xb) he h9:=⟨by omega,fun b hb=>by rw [f9.ca b hb.2,f8.ca b ⟨by omega,fun o k cc e=>by have:=ine _ _ _ _ e;omega⟩,f7.ca b (by omega),f4.ca b (by omega),f3.ca b (by omega)]⟩;have rk9:=(ph h9 (GE.trans (F9.sub))).1
           (try simp (maxSteps:=2000000) only [aE,rL,rD,rB,reduceIte,af,Chk,t6,t8,dx,aH,b9.at dp rfl])
           ((repeat refine WC.seq ?_);refine WC.draw (plans:=EA) (by kernel_rfl) ?_;simp only [EA,ak])
           (try simp (maxSteps:=2000000) only [aE,rL,rD,rB,reduceIte,af,Chk,t1,t6,t8,dW,aH,b9.at cM rfl]);refine (wB rk9 (by omega) (by omega) (by omega)).mono fun v hg1 ⟨q4,g1⟩=>?_;rw [hsv] at q4;subst q4;have y1:=g1.bX;have bxg:=b9.fix g1;have bbg:=bb9.fix g1;have bfg:=bf9.fix (K:=(·<h9.bX)) (in8.sub fun b hb=>hb.2 |> fun _=>by omega) g1;obtain ⟨l,hl⟩:∃l:Nat,l=(sv - base).toNat:=⟨_,rfl⟩;have hlN:l+8≤N:=by omega
           have w1:IntKind.i64.wrap (sv - base)=(l:Int):=by rw [cy (by omega) (by omega)];omega
           obtain ⟨o3,cc3,sl3,so3⟩:=oT (g:=g) (b:=bb) (n:=N) (k:=.i64) cM rfl ty5 rfl (show l≤N by omega);(try simp (maxSteps:=2000000) only [aE,rL,rD,rB,reduceIte,af,Chk,t1,t6,t8,dW,aH,bxg.at cM rfl,i64,cF,w1,sl3]);rw [←hl] at hF2;refine (uh (xs:=[]) (n:=gv) (k:=8) .nil (fun b o n c e=>by cases e) (by omega) (by simp)).mono fun v k6 gr=>?_;have y6:=gr.fix.bX;have e6:cH hg1 k6:=gr.fix.sub fun b hb=>⟨hb,fun o m cc e=>by cases e⟩
           have bx6:=bxg.fix e6;have bb6:=bbg.fix e6;have bf6:=bfg.fix (K:=(·<hg1.bX)) (in8.sub) e6;(try simp (maxSteps:=2000000) only [aE,rL,rD,rB,reduceIte,af,Chk,t1,t6,t8,dW,aH,bx6.at cM rfl,i64,cF,w1,sl3]);refine nU (xs:=leB (U gv) 8) bb6 (by rw [dw];omega) lbe so3 (by simpa using gr.buf.sl) ?_;intro v7 k7 a7 m7 e7;have l7:(er bs2 l (leB (U gv) 8)).length=N:=by rw [dP (by rw [dw];omega),lbe]
           have bx7:=bx6.fix e7;have bf7:=bf6.fix (K:=(·≠bb)) (in8.sub) e7;(try simp (maxSteps:=2000000) only [aE,rL,rD,rB,reduceIte,af,Chk,t1,t6,t8,dW,aH,bx7.at cM rfl,i64,cF,w1,sl3]);refine ap ?_;(try simp only [aE,rL,rD,rB,reduceIte,t269,ct])
           refine ⟨_,?_,_,j+1,s',er bs2 l (leB (U gv) 8),rfl,⟨by omega,fun b hb=>by rw [e7.ca b hb.2.2,e6.ca b (by omega),g1.ca b (by omega),F9.ca b ⟨by omega,hb.2.1⟩,fe.ca b hb]⟩,rfl,by omega,?_⟩
           ·omega
           (try simp only [aE,rL,rD,rB,reduceIte,t0,t1,t4,t5,t6,t8,t267,t268])
           refine ⟨aD,aD,aD,aD,aD,aD,aD,aD,?_,bx7,?_,in8.sub,a7,l7,hF2⟩
           ·rw [cy (by omega) (by omega)];rfl
           ·rw [qX (by simpa [iT] using hlj),hX];exact bf7
          ·refine aF (WC.exit ?_);have:j=NM.length:=by omega
           subst this;have hYl:(iT base SL os NM NM).length=NM.length:=by simp [iT]
           rw [bT (by omega)] at bfe;rw [bK (by omega)] at hF2;simp only [sZ] at hF2;have exe:=Sl.fix exd (ind.sub) fe;have bne:=bnd.fix (K:=fun b=>b<hd.bX∧b≠xb∧b≠bb) (inC.sub) fe;have sle:Sl (E g) he 3 sl (iT base SL os NM NM).length ((iT base SL os NM NM).flatMap fU):=by rw [hYl];exact bfe.sl
           (try simp only [aE,rL,rD,rB,reduceIte,nb16]);refine ap ?_;(try simp only [aE,rL,rD,rB,reduceIte,t0,Sl.lenB oe.sl gM rfl]);refine ao ?_
           refine WC.while (fun m fr hf=>∃ts i en,fr=⟨ts,352,[],18,none⟩∧Fix (fun b=>b<he.bX∧b≠xb) he hf∧m=L.length - i∧i≤L.length∧ts.get 0=some ls∧ts.get 1=some (.int .i64 base)∧ts.get 4=some (.ptr h.bX 0)∧ts.get 5=some (.ptr h1.bX 0)∧ts.get 6=some (.ptr kb 0)∧ts.get 8=some (.ptr xb 0)∧ts.get 302=some ls∧ts.get 303=some (.int .i64 L.length)∧ts.get 304=some (.int .i64 i)∧Has hf xb (imV base bb N code en ex sl nd)∧nW base code os i (os.drop i) en=nW base code os 0 os 0) ?_ ⟨_,0,0,rfl,Fix.refl _ _,rfl,by omega,?_,?_,?_,?_,?_,?_,?_,?_,?_,bxe,rfl⟩
           ·rintro m fr hf ⟨ts,i,en,rfl,ff,rfl,hil,t0,t1,t4,t5,t6,t8,t302,t303,t304,bxf,hR⟩
            have xe:=fe.bX;have xf:=ff.bX;have GE:Fix (·<h6.bX) hA he:=GD.trans (fe.sub);have xe:=fe.bX;have GF:Fix (·<h6.bX) hA hf:=GE.trans (ff.sub);obtain ⟨rkf,zf1,zf2,of⟩:=ph hf GF;refine ap ?_;(try simp only [aE,rL,rD,rB,reduceIte,t303,t304]);refine aw ?_
            by_cases hli:i<L.length
            ·refine aG (WC.skip ?_);refine az ?_;obtain ⟨p,p1,p2⟩:=of.sl.at (fun _=>rfl) gM rfl eP rfl (by decide) rfl hli;have p2:=p2 hf fun _ _ _ _ _=>rfl;have obi:=of.ob _ (aP hli);have hmo:L[i].2∈os:=by rw [←hoi i hli];exact aP _
             have eni:=hent _ hmo;rw [da (by omega),hoi i hli] at hR;simp only [nW] at hR;refine ao ?_;refine ap ?_;(try simp only [aE,rL,rD,rB,reduceIte,t302,t304,p1,p2]);refine cz eP ?_;intro h11 b11 n11 f11;refine az ?_;refine cq b11 eP rfl (aI 7) (Oc.one obi) ?_;intro h12 b12 n12 f12;have b12:Has h12 hf.bX [.str L[i].2.name,L[i].1.code,L[i].1.data,L[i].1.ce,L[i].1.ci,L[i].1.cf,.str L[i].2.entry]:=b12
             have F12:cH hf h12:=⟨by omega,fun b hb=>by rw [f12.ca b (by omega),f11.ca b hb]⟩;have bx12:=bxf.fix F12;have G12:=GF.trans (F12.sub);obtain ⟨rk12,z1,z2,_⟩:=ph h12 G12
             have hcb:code≤131072+16:=by
              have e1:=(rt (sec:=2) (M:=16384) (os:=os) (a:=dJ os) fun o ho=>by unfold szS;rw [if_neg (by decide)];exact (lg.good o ho).data).1;have e2:ko os=iG 2 os (dJ os):=rfl;have e3:=iS (ko os);have e4:=iS (dJ os);have e5:fM os=upN (ko os):=rfl;omega
             have hcc:0≤code:=by omega
             have lE:cx (E g) h12 9 (.ptr hf.bX 6)=some (.str L[i].2.entry):=b12.at ty9 rfl 6;have lX:cx (E g) h12 2 (.ptr xb 3)=some (i64 en):=bx12.at ty2 rfl 3;refine ax ?_
             by_cases hen:L[i].2.entry=[]
             ·rw [if_neg (fun q=>q.1 hen)] at hR;(try simp only [aE,rL,rD,rB,reduceIte,t8,hJ,aH,lE,eT,beq_nil hen,un]);refine aw ?_;refine aF (WC.skip ?_);refine ax ?_;(try simp only [aE,rL,rD,rB,reduceIte,t304,ct])
              refine ⟨_,?_,_,i+1,en,rfl,⟨by omega,fun b hb=>by rw [F12.ca b (by omega),ff.ca b hb]⟩,rfl,by omega,?_⟩
              ·omega
              (try simp only [aE,rL,rD,rB,reduceIte,t0,t1,t4,t5,t6,t8,t302,t303]);refine ⟨aD,aD,aD,aD,aD,aD,aD,aD,?_,bx12,hR⟩;rw [cy (by omega) (by omega)];rfl
             ·by_cases he0:en=0
              ·rw [if_pos ⟨hen,he0⟩] at hR;(try simp only [aE,rL,rD,rB,reduceIte,t8,hJ,dB,aH,lE,lX,eT,Cz hen,un,i64,jL,nf he0]);refine aw ?_;refine aG ?_;refine ax ?_;(try simp only [aE,rL,rD,rB,reduceIte,t6,hJ,aH,lE]);obtain ⟨hn1,hn2,hn3⟩:=Fe eni hen;have hAb:=yi lg (i:=i) (by omega) (k:=L[i].2.entry) (by rw [hoi i hli];exact hn1);rw [hoi i hli] at hAb;refine (z7 rk12 (by rw [hos];exact lg) hli hn1).mono fun v h13 ⟨q13,f13⟩=>?_
               rw [hos] at q13;subst q13;generalize hav:(nH base os i L[i].2 L[i].2.entry).getD 0=av at hAb hR;have x13:=f13.bX;have bx13:=bx12.fix f13;(try simp only [aE,rL,rD,rB,reduceIte,resV,hav,t8,dB,aH]);refine cq bx13 ty2 rfl (show 3+1≤7 by decide) rfl ?_;intro h14 b14 n14 f14;have b14:Has h14 xb (imV base bb N code av ex sl nd):=b14;have F14:Fix (fun b=>b<hf.bX∧b≠xb) hf h14:=⟨by omega,fun b hb=>by rw [f14.ca b hb.2,f13.ca b (by omega),F12.ca b hb.1]⟩
               obtain ⟨rk14,z3,z4,_⟩:=ph h14 (GF.trans (F14.sub));have lX2:cx (E g) h14 2 (.ptr xb 3)=some (i64 av):=b14.at ty2 rfl 3;have lC2:cx (E g) h14 2 (.ptr kb 3)=some (i64 code):=rk14.bk.at ty2 rfl 3;have wC:IntKind.i64.wrap (base+code)=base+code:=cy (by omega) (by omega);refine az ?_
               ((repeat refine WC.seq ?_);refine WC.draw (plans:=Ez) (by kernel_rfl) ?_;simp only [Ez,ak])
               by_cases q1:av<base
               ·rw [if_pos (.inl q1)] at hR;(try simp (maxSteps:=2000000) only [aE,rL,rD,rB,reduceIte,af,Chk,t1,t6,t8,dB,jx,aH,lX2,lC2,i64,tU,aJ q1,un]);refine aw ?_;refine aG ?_;refine ax ?_;(try simp only [aE,rL,rD,rB,reduceIte,t4,t5,ma,uG]);rw [←hR] at hP;simp only at hP;rw [hP];refine cq z3 gY rfl (aI 7) rfl ?_;intro hu bu nu fu;(try simp only [aE,rL,rD,rB,reduceIte,t4,t5]);refine cq (z4.fix fu) cP rfl (aI 2) (cN _) ?_
                intro hw bw nw fw';have l1:cx (E g) hw 60 (.ptr h.bX 0)=some (.agg kY):=(bu.fix fw').agg gY rfl (aI 7);have l2:cx (E g) hw 35 (.ptr h1.bX 0)=some (.agg (cG ((i:Int),14))):=bw.agg cP rfl (aI 2);refine az ?_;refine WC.ret ?_;(try simp only [aE,rL,rD,rB,reduceIte,l1,l2,t4,t5]);exact ⟨⟨by omega,fun b hb=>by rw [fw'.ca b (by omega),fu.ca b (by omega),F14.ca b ⟨by omega,by omega⟩,GF.ca b (by omega),FA.ca b (by omega),F6.ca b (by omega),F4.ca b hb]⟩,by trivial⟩
               ·by_cases q2:base+code≤av
                ·rw [if_pos (.inr (.inl q2))] at hR;(try simp (maxSteps:=2000000) only [aE,rL,rD,rB,reduceIte,af,Chk,t1,t6,t8,dB,jx,aH,lX2,lC2,i64,tU,aK q1,un,ct,wC,vM,aJ q2]);refine aw ?_;refine aG ?_;refine ax ?_;(try simp only [aE,rL,rD,rB,reduceIte,t4,t5,ma,uG]);rw [←hR] at hP;simp only at hP;rw [hP];refine cq z3 gY rfl (aI 7) rfl ?_;intro hu bu nu fu;(try simp only [aE,rL,rD,rB,reduceIte,t4,t5])
                 refine cq (z4.fix fu) cP rfl (aI 2) (cN _) ?_;intro hw bw nw fw';have l1:cx (E g) hw 60 (.ptr h.bX 0)=some (.agg kY):=(bu.fix fw').agg gY rfl (aI 7);have l2:cx (E g) hw 35 (.ptr h1.bX 0)=some (.agg (cG ((i:Int),14))):=bw.agg cP rfl (aI 2);refine az ?_;refine WC.ret ?_;(try simp only [aE,rL,rD,rB,reduceIte,l1,l2,t4,t5]);exact ⟨⟨by omega,fun b hb=>by rw [fw'.ca b (by omega),fu.ca b (by omega),F14.ca b ⟨by omega,by omega⟩,GF.ca b (by omega),FA.ca b (by omega),F6.ca b (by omega),F4.ca b hb]⟩,by trivial⟩
                ·by_cases q3:av=0
                 ·rw [if_pos (.inr (.inr q3))] at hR;(try simp (maxSteps:=2000000) only [aE,rL,rD,rB,reduceIte,af,Chk,t1,t6,t8,dB,jx,aH,lX2,lC2,i64,tU,aK q1,un,ct,wC,vM,aK q2,jL,nf q3]);refine aw ?_;refine aG ?_;refine ax ?_;(try simp only [aE,rL,rD,rB,reduceIte,t4,t5,ma,uG]);rw [←hR] at hP;simp only at hP;rw [hP];refine cq z3 gY rfl (aI 7) rfl ?_;intro hu bu nu fu;(try simp only [aE,rL,rD,rB,reduceIte,t4,t5])
                  refine cq (z4.fix fu) cP rfl (aI 2) (cN _) ?_;intro hw bw nw fw';have l1:cx (E g) hw 60 (.ptr h.bX 0)=some (.agg kY):=(bu.fix fw').agg gY rfl (aI 7);have l2:cx (E g) hw 35 (.ptr h1.bX 0)=some (.agg (cG ((i:Int),14))):=bw.agg cP rfl (aI 2);refine az ?_;refine WC.ret ?_;(try simp only [aE,rL,rD,rB,reduceIte,l1,l2,t4,t5]);exact ⟨⟨by omega,fun b hb=>by rw [fw'.ca b (by omega),fu.ca b (by omega),F14.ca b ⟨by omega,by omega⟩,GF.ca b (by omega),FA.ca b (by omega),F6.ca b (by omega),F4.ca b hb]⟩,by trivial⟩
                 ·rw [if_neg (fun q=>q.elim q1 fun q=>q.elim q2 q3)] at hR;(try simp (maxSteps:=2000000) only [aE,rL,rD,rB,reduceIte,af,Chk,t1,t6,t8,dB,jx,aH,lX2,lC2,i64,tU,aK q1,un,ct,wC,vM,aK q2,jL,li q3]);refine aw ?_;refine aF (WC.skip ?_);refine ax ?_;(try simp only [aE,rL,rD,rB,reduceIte,t304,ct])
                  refine ⟨_,?_,_,i+1,av,rfl,⟨by omega,fun b hb=>by rw [F14.ca b ⟨by omega,hb.2⟩,ff.ca b hb]⟩,rfl,by omega,?_⟩
                  ·omega
                  (try simp only [aE,rL,rD,rB,reduceIte,t0,t1,t4,t5,t6,t8,t302,t303]);refine ⟨aD,aD,aD,aD,aD,aD,aD,aD,?_,b14,hR⟩;rw [cy (by omega) (by omega)];rfl
              ·rw [if_neg (fun q=>he0 q.2)] at hR;(try simp only [aE,rL,rD,rB,reduceIte,t8,hJ,dB,aH,lE,lX,eT,Cz hen,un,i64,jL,li he0]);refine aw ?_;refine aF (WC.skip ?_);refine ax ?_;(try simp only [aE,rL,rD,rB,reduceIte,t304,ct])
               refine ⟨_,?_,_,i+1,en,rfl,⟨by omega,fun b hb=>by rw [F12.ca b (by omega),ff.ca b hb]⟩,rfl,by omega,?_⟩
               ·omega
               (try simp only [aE,rL,rD,rB,reduceIte,t0,t1,t4,t5,t6,t8,t302,t303]);refine ⟨aD,aD,aD,aD,aD,aD,aD,aD,?_,bx12,hR⟩;rw [cy (by omega) (by omega)];rfl
            ·refine aF (WC.exit ?_);have:i=L.length:=by omega
             subst this;rw [bK (by omega)] at hR;simp only [nW] at hR;rw [←hR] at hP;simp only at hP;rw [hP];have exf:=Sl.fix exe (ind.sub) ff;have slf:=Sl.fix sle (ine.sub) ff;have bnf:=bne.fix (K:=fun b=>b<he.bX∧b≠xb) (inC.sub) ff;have baf:=bae.fix ff ⟨by omega,fun e=>bx e⟩;have lI:cx (E g) hf 60 (.ptr xb 0)=some (.agg (imV base bb N code en ex sl nd)):=bxf.agg gY rfl (aI 7);(try simp only [aE,rL,rD,rB,reduceIte,nb18])
             refine ap ?_;(try simp only [aE,rL,rD,rB,reduceIte,t4,t5,t8,lI,iR])
             have oI:(imV base bb N code en ex sl nd).all V.one=true:=by
              simp only [imV,List.all_cons,List.all_nil,(Sl.one exf).2,(Sl.one slf).2,(Sl.one bnf.sl).2,Bool.and_true];rfl
             refine cq zf1 gY rfl (aI 7) oI ?_;intro hG bG nG fG;have bG:Has hG h.bX (imV base bb N code en ex sl nd):=bG;(try simp only [aE,rL,rD,rB,reduceIte,t4,t5,iR]);refine cq (zf2.fix fG) cP rfl (aI 2) (cN _) ?_;intro hZ bZ nZ fZ;have l1:cx (E g) hZ 60 (.ptr h.bX 0)=some (.agg (imV base bb N code en ex sl nd)):=(bG.fix fZ).agg gY rfl (aI 7);have l2:cx (E g) hZ 35 (.ptr h1.bX 0)=some (.agg (cG (0,0))):=bZ.agg cP rfl (aI 2)
             refine az ?_;refine WC.ret ?_;(try simp only [aE,rL,rD,rB,reduceIte,t4,t5,l1,l2]);have FZ:Fix (fun b=>b≠h.bX∧b≠h1.bX) hf hZ:=⟨by omega,fun b hb=>by rw [fZ.ca b hb.2,fG.ca b hb.1]⟩;have hcd:=hcode.symm
             have e1:Bo base os en=⟨base,bs2,(upN (dJ os):Nat),en,nV base os K,iT base SL os NM NM,Nd⟩:=by
              unfold Bo;rw [←hK,←hNM,←hSL,←hN,←hRL,←hF2,hnd]
             refine ⟨⟨by omega,fun b hb=>by rw [FZ.ca b ⟨by omega,by omega⟩,GF.ca b (by omega),FA.ca b (by omega),F6.ca b (by omega),F4.ca b hb]⟩,?_⟩;show FitsI (Bo base os en)∧∃c:Ic,_=V.tuple [.agg (c.cells (Bo base os en)),.agg (cG (0,0))]∧Im g hZ (fun b=>h.bX≤b∧b<hZ.bX) c (Bo base os en);rw [e1]
             refine ⟨⟨by show bs2.length<_;omega,by show (nV base os K).length<_;omega,by show (iT base SL os NM NM).length<_;omega,by show Nd.length<_;omega⟩,⟨.slice bb 0 N (.lit N),ex,sl,nd⟩,?_,?_⟩
             ·rw [hcode];rfl
             refine ⟨?_,Sl.fix exf (K:=fun b=>b≠h.bX∧b≠h1.bX) (ind.sub) FZ,Sl.fix slf (K:=fun b=>b≠h.bX∧b≠h1.bX) (ine.sub) FZ,Sl.fix bnf.sl (K:=fun b=>b≠h.bX∧b≠h1.bX) (inC.sub) FZ,?_,ind.sub,ine.sub,inC.sub⟩
             ·show Sl (E g) hZ 1 (.slice bb 0 N (.lit N)) bs2.length (bs2.map u8);rw [lbe];exact (baf.fix FZ).slice (by simp [lbe]) (fun c e=>by injection e with e;omega)
             ·intro b o n c e;injection e with e1;subst e1;exact ⟨by omega,by omega⟩
           all_goals (try simp only [aE,rL,rD,rB,reduceIte,t0,t1,t4,t5,t6,t8])
           all_goals (first|done|rfl|trivial|simp)
         all_goals (try simp only [aE,rL,rD,rB,reduceIte,t0,t1,t4,t5,t6,t8])
         all_goals (first|done|rfl|trivial|simp)
       all_goals (try simp only [aE,rL,rD,rB,reduceIte,t0,t1,t4,t5,t6,t8])
       all_goals (first|done|rfl|trivial|simp)
     all_goals (try simp only [aE,rL,rD,rB,reduceIte,t0,t1,t4,t5,t6,t8])
     all_goals (first|done|rfl|trivial|simp)
   all_goals (try simp only [aE,rL,rD,rB,reduceIte,t0,t1,t4,t5,t6,t8])
   all_goals (first|done|rfl|trivial|simp)
 all_goals (try simp only [aE,rL,rD,rB,reduceIte,t0,t1,t4,t5,t6,t8])
 all_goals (first|done|rfl|trivial|simp)
end Go.Proofs.OP
