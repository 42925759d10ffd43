/- Walks: object.symbols, (*linker).resolved. Printed by genL3.py. -/
import Derived.Test.YtloblhhnlaaajaaDoorY33
set_option maxHeartbeats 16000000
set_option maxRecDepth 100000
set_option linter.unusedVariables false
set_option linter.unusedSimpArgs false
set_option linter.defProp false
namespace Go.Proofs.OP
open Go Go.Ev
open Go.Proofs
open Nat renaming reduceLT → rL, reduceEqDiff → rD, reduceBEq → rB
variable {g : T (List V)}
def sV (s:SymD):V:=.agg (iD s)
abbrev Sm:=List (List UInt8×SymD)
def nJ:List SymD→Sm→Sm
 | [],S=>S
 | s::r,S=>nJ r (ia s.name s S)
theorem vV {h:H} {c:Oc} {o:ObjD} (ob:Ob g h (·<h.bX) c o) (fit:Fits o):WF (E g) 84 [.agg (c.cells o)] h fun v h'=>∃b,v=.map b∧h.bX≤b∧b<h'.bX∧Mq h' b (mv sV (nJ o.ce []))∧cH h h':=by
 have fs:=fit.ce;refine WF.enter fn84 rfl ?_;refine au ?_;refine eI (v:=.agg (c.cells o)) (by (try simp only [aE,rL,rD,rB,reduceIte])) ?_;intro h1 b1 n1 f1;have b1:Has h1 h.bX [.str o.name,c.code,c.data,c.ce,c.ci,c.cf,.str o.entry]:=b1;have ob1:=ob.fix f1;refine ay ?_;refine px ?_;intro h2 m2 n2 f2;refine az ?_;have b2:=b1.fix f2;have ob2:=ob1.fix f2;have l2:cx (E g) h2 74 (.ptr h.bX 3)=some c.ce:=b2.at oO rfl 3
 refine ap ?_;(try simp only [aE,rL,rD,rB,reduceIte,pO,aH,l2,Sl.lenB ob2.ce oO rfl]);refine ao ?_
 refine WC.while (fun m fr hj=>∃ts j S,fr=⟨ts,20,[],84,none⟩∧Fix (fun b=>b<h1.bX) h1 hj∧h2.bX≤hj.bX∧m=o.ce.length - j∧j≤o.ce.length∧ts.get 3=some (.map h1.bX)∧ts.get 8=some c.ce∧ts.get 9=some (.int .i64 o.ce.length)∧ts.get 10=some (.int .i64 j)∧Mq hj h1.bX (mv sV S)∧nJ (o.ce.drop j) S=nJ o.ce []) ?_ ⟨_,0,[],rfl,f2,aI _,rfl,by omega,?_,?_,?_,?_,m2,rfl⟩
 ·rintro m fr hj ⟨ts,j,S,rfl,fj,xj2,rfl,hjl,t3,t8,t9,t10,mj,hS⟩
  have xj:=fj.bX;have obj:=ob1.fix fj;refine ap ?_;(try simp only [aE,rL,rD,rB,reduceIte,t9,t10]);refine aw ?_
  by_cases hlj:j<o.ce.length
  ·refine aG (WC.skip ?_);refine az ?_;obtain ⟨p,p1,p2⟩:=obj.ce.at jU oO rfl j5 rfl (by decide) rfl hlj;have p2:=p2 hj fun _ _ _ _ _=>rfl;generalize hs:o.ce[j]=s at p2;have hS':nJ (o.ce.drop j) S=nJ (s::o.ce.drop (j+1)) S:=by rw [da hlj,hs]
   rw [hS'] at hS;simp only [nJ] at hS;refine ao ?_;refine ap ?_;(try simp only [aE,rL,rD,rB,reduceIte,t8,t10,p1,p2]);refine cz j5 ?_;intro h6 b6 n6 f6;refine az ?_;refine cq b6 j5 rfl (aI 5) (jD s) ?_;intro h7 b7 n7 f7;have c7:Has h7 hj.bX (iD s):=b7;have b7:Has h7 hj.bX [.str s.name,i64 s.sec,i64 s.off,.bool s.cn,.bool s.cm]:=b7;have F7:cH hj h7:=⟨by omega,fun b hb=>by rw [f7.ca b (by omega),f6.ca b hb]⟩
   have m7:=mj.fix F7;have l7:cx (E g) h7 95 (.ptr hj.bX 0)=some (sV s):=c7.agg j5 rfl (aI 5);refine ax ?_;(try simp only [aE,rL,rD,rB,reduceIte,t3,kf,aH,b7.at ty9 rfl,l7,iA]);refine jX m7 HM rfl ty9 rfl j5 ?_;intro hu mu nu fu;rw [sW] at mu;refine ax ?_;(try simp only [aE,rL,rD,rB,reduceIte,t10,ct])
   refine ⟨_,?_,_,j+1,ia s.name s S,rfl,⟨by omega,fun b hb=>by rw [fu.ca b (by omega),F7.ca b (by omega),fj.ca b hb]⟩,by omega,rfl,by omega,?_⟩
   ·omega
   (try simp only [aE,rL,rD,rB,reduceIte,t3,t8,t9]);refine ⟨aD,aD,aD,?_,mu,hS⟩;rw [cy (by omega) (by omega)];rfl
  ·refine aF (WC.exit ?_);have:j=o.ce.length:=by omega
   subst this;rw [bU] at hS;simp only [nJ] at hS;subst hS;refine ax ?_;(try simp only [aE,rL,rD,rB,reduceIte,t3]);refine WC.ret ?_;refine az ?_;exact ⟨_,rfl,by omega,by omega,mj,f1.trans (fj.sub)⟩
 all_goals (try simp only [aE,rL,rD,rB,reduceIte])
 all_goals (first|done|rfl|trivial|simp)
abbrev St:=List (List UInt8×Int)
def resR (i:Nat) (own:Sm) (D:Dm):List RelD→St→Except (Int×Int) St
 | [],S=>.ok S
 | r::rest,S=>if r.kind=2 then resR i own D rest (ia r.sym 0 S) else
  if ((al r.sym own).getD oB).sec=0∧((al r.sym own).getD oB).cm=false∧al ((al r.sym own).getD oB).name D=none then .error ((i:Int),22) else resR i own D rest S
def qf (D:Dm):Nat→List ObjD→St→Except (Int×Int) St
 | _,[],S=>.ok S
 | i,o::r,S=>match resR i (nJ o.ce []) D o.ci S with
  | .error f=>.error f
  | .ok S'=>qf D (i+1) r S'
theorem i64_zv:(V.int .i64 0)=i64 0:=rfl
theorem Bp {n0 kb db sb:Nat} {h:H} {ls st:V} {L:List (Oc×ObjD)} {base:Int} {im:List V} {D:Dm} (hn0:n0≤h.bX) (a:Obs g h (·<n0) ls L) (fL:∀p∈L,Fits p.2) (lL:L.length<2^30)
  (bk:Has h kb (lkV ls base st db sb im)) (md:Mq h db (mv dV D)) (ms:Mq h sb (mv i64 [])) (hkb:kb<h.bX) (hdb:db<h.bX) (hsb:sb<h.bX) (kd:kb≠db) (ks:kb≠sb) (ds:db≠sb) (k0:n0≤kb) (d0:n0≤db) (s0:n0≤sb) :
  WF (E g) 33 [.ptr kb 0] h fun v h'=>Fix (fun b=>b<h.bX∧b≠sb) h h'∧match qf D 0 (L.map (·.2)) [] with
   | .error f=>v=.agg (cG f)
   | .ok S=>v=.agg (cG (0,0))∧Mq h' sb (mv i64 S):=by
 refine WF.enter fn33 rfl ?_;refine au ?_;refine cz cP ?_;intro h1 b1 n1 f1;have b1:Has h1 h.bX (cG (0,0)):=b1;refine az ?_;have a1:=a.fix f1;have bk1:=bk.fix f1 hkb;have md1:=md.fix f1 hdb;have l1:cx (E g) h1 38 (.ptr kb 0)=some ls:=bk1.at jr rfl 0;refine ap ?_;(try simp only [aE,rL,rD,rB,reduceIte,lV,aH,l1,Sl.lenB a1.sl jr rfl]);refine ao ?_
 refine WC.while (fun m fr hh=>∃ts i S,fr=⟨ts,70,[],33,none⟩∧Fix (fun b=>b<h1.bX∧b≠sb) h1 hh∧m=L.length - i∧i≤L.length∧ts.get 0=some (.ptr kb 0)∧ts.get 2=some (.ptr h.bX 0)∧ts.get 14=some ls∧ts.get 15=some (.int .i64 L.length)∧ts.get 16=some (.int .i64 i)∧Mq hh sb (mv i64 S)∧qf D i ((L.map (·.2)).drop i) S=qf D 0 (L.map (·.2)) []) ?_ ⟨_,0,[],rfl,Fix.refl _ _,rfl,by omega,?_,?_,?_,?_,?_,ms.fix f1 hsb,rfl⟩
 ·rintro m fr hh ⟨ts,i,S,rfl,ff,rfl,hi,t0,t2,t14,t15,t16,mS,hD⟩
  have xh:=ff.bX;have ah:=a1.fix ff;have bkh:=bk1.fix ff ⟨by omega,ks⟩;have mdh:=md1.fix ff ⟨by omega,ds⟩;refine ap ?_;(try simp only [aE,rL,rD,rB,reduceIte,t15,t16]);refine aw ?_
  by_cases hlt:i<L.length
  ·refine aG (WC.skip ?_);refine az ?_;obtain ⟨p,p1,p2⟩:=ah.sl.at (fun _=>rfl) jr rfl iq rfl (by decide) rfl hlt;have p2:=p2 hh fun _ _ _ _ _=>rfl;have hmem:=aP hlt;have obi:=ah.ob _ hmem;have fit:=fL _ hmem;have fre:=fit.ci
   have hD':qf D i ((L.map (·.2)).drop i) S=match resR i (nJ L[i].2.ce []) D L[i].2.ci S with
     | .error f=>.error f
     | .ok S'=>qf D (i+1) ((L.map (·.2)).drop (i+1)) S':=by
    rw [da (by simpa using hlt),List.getElem_map];rfl
   rw [hD'] at hD;refine ao ?_;refine ap ?_;(try simp only [aE,rL,rD,rB,reduceIte,t14,t16,p1,p2]);refine cz iq ?_;intro h4 b4 n4 f4;refine az ?_;refine cq b4 iq rfl (aI 7) (Oc.one obi) ?_;intro h5 b5 n5 f5;have c5:Has h5 hh.bX (L[i].1.cells L[i].2):=b5;have b5:Has h5 hh.bX [.str L[i].2.name,L[i].1.code,L[i].1.data,L[i].1.ce,L[i].1.ci,L[i].1.cf,.str L[i].2.entry]:=b5;have F5:cH hh h5:=⟨by omega,fun b hb=>by rw [f5.ca b (by omega),f4.ca b hb]⟩
   have ob5:=obi.fix F5;have l5:cx (E g) h5 77 (.ptr hh.bX 0)=some (.agg (L[i].1.cells L[i].2)):=c5.agg iq rfl (aI 7);have mS5:=mS.fix F5;have md5:=mdh.fix F5;have bk5:=bkh.fix F5;refine ax ?_;(try simp only [aE,rL,rD,rB,reduceIte,l5]);refine (vV (ob5.up) fit).mono fun v h6 ⟨ob,e6,o1,o2,mo,f6⟩=>?_;subst e6;have x6:=f6.bX;have mS6:=mS5.fix f6;have md6:=md5.fix f6;have bk6:=bk5.fix f6;have b6:=b5.fix f6
   have ob6:=ob5.fix f6;generalize hown:nJ L[i].2.ce []=own at mo hD;have l6:cx (E g) h6 75 (.ptr hh.bX 4)=some L[i].1.ci:=b6.at mF rfl 4;refine ax ?_;(try simp only [aE,rL,rD,rB,reduceIte,qL,aH,l6,Sl.lenB ob6.ci mF rfl]);refine ao ?_
   refine WC.while (fun m fr hj=>∃ts j S2,fr=⟨ts,70,[],33,none⟩∧Fix (fun b=>b<h6.bX∧b≠sb) h6 hj∧m=L[i].2.ci.length - j∧j≤L[i].2.ci.length∧ts.get 0=some (.ptr kb 0)∧ts.get 2=some (.ptr h.bX 0)∧ts.get 3=some (.int .i64 i)∧ts.get 5=some (.map ob)∧ts.get 14=some ls∧ts.get 15=some (.int .i64 L.length)∧ts.get 16=some (.int .i64 i)∧ts.get 24=some L[i].1.ci∧ts.get 25=some (.int .i64 L[i].2.ci.length)∧ts.get 26=some (.int .i64 j)∧Mq hj sb (mv i64 S2)∧resR i own D (L[i].2.ci.drop j) S2=resR i own D L[i].2.ci S) ?_ ⟨_,0,S,rfl,Fix.refl _ _,rfl,by omega,?_,?_,?_,?_,?_,?_,?_,?_,?_,?_,mS6,rfl⟩
   ·rintro m fr hj ⟨ts,j,S2,rfl,fj,rfl,hjl,t0,t2,t3,t5,t14,t15,t16,t24,t25,t26,mj,hS⟩
    have xj:=fj.bX;have obj:=ob6.fix fj;have bkj:=bk6.fix fj ⟨by omega,ks⟩;have mdj:=md6.fix fj ⟨by omega,ds⟩;have moj:=mo.fix fj ⟨by omega,by omega⟩;refine ap ?_;(try simp only [aE,rL,rD,rB,reduceIte,t25,t26]);refine aw ?_
    by_cases hlj:j<L[i].2.ci.length
    ·refine aG (WC.skip ?_);refine az ?_;obtain ⟨p,p1,p2⟩:=obj.ci.at jh mF rfl qd rfl (by decide) rfl hlj;have p2:=p2 hj fun _ _ _ _ _=>rfl;generalize hr:L[i].2.ci[j]=r at p2;have hS':resR i own D (L[i].2.ci.drop j) S2=resR i own D (r::L[i].2.ci.drop (j+1)) S2:=by rw [da hlj,hr]
     rw [hS'] at hS;simp only [resR] at hS;refine ao ?_;refine ap ?_;(try simp only [aE,rL,rD,rB,reduceIte,t24,t26,p1,p2]);refine cz qd ?_;intro h7 b7 n7 f7;refine az ?_;refine cq b7 qd rfl (aI 5) (oX r) ?_;intro h8 b8 n8 f8;have b8:Has h8 hj.bX [i64 r.sec,i64 r.off,i64 r.kind,.str r.sym,i64 r.add]:=b8;have F8:cH hj h8:=⟨by omega,fun b hb=>by rw [f8.ca b (by omega),f7.ca b hb]⟩;have mS8:=mj.fix F8;have md8:=mdj.fix F8
     have mo8:=moj.fix F8;have bk8:=bkj.fix F8;refine ax ?_
     by_cases hk:r.kind=2
     ·rw [if_pos hk] at hS;(try simp only [aE,rL,rD,rB,reduceIte,ni,aH,b8.at ty3 rfl,i64,nf hk]);refine aw ?_;refine aG ?_;refine az ?_
      ((repeat refine WC.seq ?_);refine WC.draw (plans:=IJ) (by kernel_rfl) ?_;simp only [IJ,ak])
      (try simp (maxSteps:=2000000) only [aE,rL,rD,rB,reduceIte,af,Chk,t0,oq,uD,aH,bk8.at ld rfl,b8.at ty9 rfl,iA]);rw [i64_zv];refine jX mS8 ld rfl ty9 rfl ty2 ?_;intro hu mu nu fu;rw [sW] at mu;refine am ?_;refine WC.exit ?_;(try simp only [aE,rL,rD,rB,reduceIte,nb3]);refine ap ?_;(try simp only [aE,rL,rD,rB,reduceIte,t26,ct])
      refine ⟨_,?_,_,j+1,ia r.sym 0 S2,rfl,⟨by omega,fun b hb=>by rw [fu.ca b hb.2,F8.ca b (by omega),fj.ca b hb]⟩,rfl,by omega,?_⟩
      ·omega
      (try simp only [aE,rL,rD,rB,reduceIte,t0,t2,t3,t5,t14,t15,t16,t24,t25]);refine ⟨aD,aD,aD,aD,aD,aD,aD,aD,aD,?_,mu,hS⟩;rw [cy (by omega) (by omega)];rfl
     ·rw [if_neg hk] at hS;have lo8:=sj (E:=E g) (z:=oB) (k:=r.sym) mo8 HM rfl ty9 rfl j5 rfl;generalize hsy:(al r.sym own).getD oB=s at lo8 hS;(try simp only [aE,rL,rD,rB,reduceIte,ni,aH,b8.at ty3 rfl,i64,li hk]);refine aw ?_;refine aF (WC.skip ?_);refine ax ?_;(try simp only [aE,rL,rD,rB,reduceIte,t5,uD,aH,b8.at ty9 rfl,dj,lo8]);refine cz j5 ?_;intro h9 b9 n9 f9;refine az ?_;refine cq b9 j5 rfl (aI 5) (jD s) ?_
      intro hA bA nA fA;have bA:Has hA h8.bX [.str s.name,i64 s.sec,i64 s.off,.bool s.cn,.bool s.cm]:=bA;have FA:cH h8 hA:=⟨by omega,fun b hb=>by rw [fA.ca b (by omega),f9.ca b hb]⟩;have mdA:=md8.fix FA;have bkA:=bk8.fix FA;refine az ?_;have lkA:=FP (E:=E g) (z:=zGl) (k:=s.name) mdA eE rfl ty9 rfl gz rfl
      ((repeat refine WC.seq ?_);refine WC.draw (plans:=Eu) (by kernel_rfl) ?_;simp only [Eu,ak])
      (try simp (maxSteps:=2000000) only [aE,rL,rD,rB,reduceIte,af,Chk,t0,fI,kf,aH,bkA.at eE rfl,bA.at ty9 rfl,fP,dj,lkA]);refine cz gz ?_;intro hB bB nB fB;have mdB:=mdA.fix fB;have bkB:=bkA.fix fB;have cB:=bA.fix fB;have lkB:=FP (E:=E g) (z:=zGl) (k:=s.name) mdB eE rfl ty9 rfl gz rfl;(try simp (maxSteps:=2000000) only [aE,rL,rD,rB,reduceIte,af,Chk,t0,fI,kf,aH,bkB.at eE rfl,cB.at ty9 rfl,fP,dj,lkB])
      refine cq bB gz rfl (aI 8) (Ak _) ?_;intro hC bC nC fC;have FC:cH hA hC:=⟨by omega,fun b hb=>by rw [fC.ca b (by omega),fB.ca b hb]⟩;have mdC:=mdA.fix FC;have bkC:=bkA.fix FC;have cC:=bA.fix FC;have lkC:=FP (E:=E g) (z:=zGl) (k:=s.name) mdC eE rfl ty9 rfl gz rfl;(try simp (maxSteps:=2000000) only [aE,rL,rD,rB,reduceIte,af,Chk,t0,fI,kf,aH,bkC.at eE rfl,cC.at ty9 rfl,fP,dj,lkC]);have FT:cH hj hC:=⟨by omega,fun b hb=>by rw [FC.ca b (by omega),FA.ca b (by omega),F8.ca b hb]⟩
      have mST:=mj.fix FT;refine ap ?_
      by_cases hsec:s.sec=0
      ·cases hw:s.cm with
       | true =>
        rw [if_neg (by rintro ⟨_,q,_⟩;rw [hw] at q;cases q)] at hS;(try simp only [aE,rL,rD,rB,reduceIte,eV,jR,aH,cC.at ty3 rfl,cC.at ty4 rfl,i64,nf hsec,un,cY,hw,aV]);refine aw ?_;refine aF (WC.skip ?_);(try simp only [aE,rL,rD,rB,reduceIte,nb3]);refine ap ?_;(try simp only [aE,rL,rD,rB,reduceIte,t26,ct])
        refine ⟨_,?_,_,j+1,S2,rfl,⟨by omega,fun b hb=>by rw [FT.ca b (by omega),fj.ca b hb]⟩,rfl,by omega,?_⟩
        ·omega
        (try simp only [aE,rL,rD,rB,reduceIte,t0,t2,t3,t5,t14,t15,t16,t24,t25]);refine ⟨aD,aD,aD,aD,aD,aD,aD,aD,aD,?_,mST,hS⟩;rw [cy (by omega) (by omega)];rfl
       | false =>
        cases hal:al s.name D with
        | some G =>
         rw [if_neg (by rintro ⟨_,_,q⟩;rw [hal] at q;cases q)] at hS;(try simp only [aE,rL,rD,rB,reduceIte,eV,jR,aH,cC.at ty3 rfl,cC.at ty4 rfl,i64,nf hsec,un,cY,hw,aV,bE,hal,bF]);refine aw ?_;refine aF (WC.skip ?_);(try simp only [aE,rL,rD,rB,reduceIte,nb3]);refine ap ?_;(try simp only [aE,rL,rD,rB,reduceIte,t26,ct])
         refine ⟨_,?_,_,j+1,S2,rfl,⟨by omega,fun b hb=>by rw [FT.ca b (by omega),fj.ca b hb]⟩,rfl,by omega,?_⟩
         ·omega
         (try simp only [aE,rL,rD,rB,reduceIte,t0,t2,t3,t5,t14,t15,t16,t24,t25]);refine ⟨aD,aD,aD,aD,aD,aD,aD,aD,aD,?_,mST,hS⟩;rw [cy (by omega) (by omega)];rfl
        | none =>
         rw [if_pos ⟨hsec,hw,hal⟩] at hS;rw [←hS] at hD;simp only at hD;rw [←hD];have br:=b1.fix ff ⟨by omega,by omega⟩;have br:=((((br.fix F5).fix f6).fix fj ⟨by omega,by omega⟩).fix FT);(try simp only [aE,rL,rD,rB,reduceIte,eV,jR,aH,cC.at ty3 rfl,cC.at ty4 rfl,i64,nf hsec,un,cY,hw,aV,bE,hal,Option.isSome_none]);refine aw ?_;refine aG ?_;refine ax ?_;(try simp only [aE,rL,rD,rB,reduceIte,t3]);refine (lC).mono fun v hb ⟨eb,fb⟩=>?_
         subst eb;have xb:=fb.bX;(try simp only [aE,rL,rD,rB,reduceIte,t2]);refine cq (br.fix fb) cP rfl (aI 2) (cN _) ?_;intro hc bc nc fc;have lc:cx (E g) hc 35 (.ptr h.bX 0)=some (.agg (cG ((i:Int),22))):=bc.agg cP rfl (aI 2);refine az ?_;refine WC.ret ?_;(try simp only [aE,rL,rD,rB,reduceIte,t2,lc]);exact ⟨⟨by omega,fun b hb=>by rw [fc.ca b (by omega),fb.ca b (by omega),FT.ca b (by omega),fj.ca b ⟨by omega,hb.2⟩,f6.ca b (by omega),F5.ca b (by omega),ff.ca b ⟨by omega,hb.2⟩,f1.ca b hb.1]⟩,by trivial⟩
      ·rw [if_neg (by rintro ⟨q,_⟩;exact hsec q)] at hS;(try simp only [aE,rL,rD,rB,reduceIte,eV,jR,aH,cC.at ty3 rfl,cC.at ty4 rfl,i64,li hsec,un]);refine aw ?_;refine aF (WC.skip ?_);(try simp only [aE,rL,rD,rB,reduceIte,nb3]);refine ap ?_;(try simp only [aE,rL,rD,rB,reduceIte,t26,ct])
       refine ⟨_,?_,_,j+1,S2,rfl,⟨by omega,fun b hb=>by rw [FT.ca b (by omega),fj.ca b hb]⟩,rfl,by omega,?_⟩
       ·omega
       (try simp only [aE,rL,rD,rB,reduceIte,t0,t2,t3,t5,t14,t15,t16,t24,t25]);refine ⟨aD,aD,aD,aD,aD,aD,aD,aD,aD,?_,mST,hS⟩;rw [cy (by omega) (by omega)];rfl
    ·refine aF (WC.exit ?_);have:j=L[i].2.ci.length:=by omega
     subst this;rw [bU] at hS;simp only [resR] at hS;rw [←hS] at hD;(try simp only [aE,rL,rD,rB,reduceIte,nb2]);refine ap ?_;(try simp only [aE,rL,rD,rB,reduceIte,t16,ct]);have FH:Fix (fun b=>b<h1.bX∧b≠sb) h1 hj:=⟨by omega,fun b hb=>by rw [fj.ca b ⟨by omega,hb.2⟩,f6.ca b (by omega),F5.ca b (by omega),ff.ca b hb]⟩
     refine ⟨_,?_,_,i+1,S2,rfl,FH,rfl,by omega,?_⟩
     ·omega
     (try simp only [aE,rL,rD,rB,reduceIte,t0,t2,t14,t15]);refine ⟨aD,aD,aD,aD,?_,mj,hD⟩;rw [cy (by omega) (by omega)];rfl
   all_goals (try simp only [aE,rL,rD,rB,reduceIte,t0,t2,t14,t15,t16])
   all_goals (first|done|rfl|trivial|simp)
  ·refine aF (WC.exit ?_);have:i=L.length:=by omega
   subst this
   have hD0:qf D 0 (L.map (·.2)) []=.ok S:=by
    rw [←hD,bK (by simp)];rfl
   rw [hD0];have br:=b1.fix ff ⟨by omega,by omega⟩;refine ax ?_;(try simp only [aE,rL,rD,rB,reduceIte,iR,t2]);refine cq br cP rfl (aI 2) (cN _) ?_;intro h9 b9 n9 f9;have l9:cx (E g) h9 35 (.ptr h.bX 0)=some (.agg (cG (0,0))):=b9.agg cP rfl (aI 2);refine az ?_;refine WC.ret ?_;(try simp only [aE,rL,rD,rB,reduceIte,t2,l9]);exact ⟨⟨by omega,fun b hb=>by rw [f9.ca b (by omega),ff.ca b ⟨by omega,hb.2⟩,f1.ca b hb.1]⟩,by trivial,mS.fix f9⟩
 all_goals (try simp only [aE,rL,rD,rB,reduceIte])
 all_goals (first|done|rfl|trivial|simp)
def upN (n:Nat):Nat:=(n+15) / 16 * 16
theorem iS (n:Nat):n≤upN n∧upN n<n+16:=by unfold upN;omega
structure Bas (base:Int):Prop where
 pos:0≤base
 most:base≤2^30
 mul:base.tmod 16=0
theorem Bas.nat {base:Int} (b:Bas base):∃q:Nat,base=((q * 16:Nat):Int):=by
 have h1:=b.pos;have h2:=b.mul;refine ⟨(base / 16).toNat,?_⟩;rw [Int.tmod_eq_emod_of_nonneg h1] at h2;omega
theorem HH {h:H} {base:Int} {x:Nat} (hb:Bas base) (hx:x<2^40):WF (E g) 85 [.int .i64 (base+x)] h fun v h'=>v=.int .i64 (base+(upN x:Nat))∧h'=h:=by
 obtain ⟨q,rfl⟩:=hb.nat;have hq:=hb.most;refine WF.enter fn85 rfl ?_;refine au ?_;refine ap ?_;(try simp only [aE,rL,rD,rB,reduceIte,ct,cF,vL,Ay (show (16:Int)≠0 by decide)]);refine WC.ret ?_;refine az ?_;refine ⟨?_,by trivial⟩
 congr 1
 rw [cy (n:=((q * 16:Nat):Int)+x+16) (by omega) (by omega),cy (n:=((q * 16:Nat):Int)+x+16 - 1) (by omega) (by omega)]
 have h1:(((q * 16:Nat):Int)+x+16 - 1).tdiv 16=((q+(x+15) / 16:Nat):Int):=by
  rw [Int.tdiv_eq_ediv_of_nonneg (by omega)];omega
 rw [h1,cy (n:=((q+(x+15) / 16:Nat):Int)) (by omega) (by omega),cy (by omega) (by omega)];unfold upN;omega
theorem FW {h:H} {K:Nat→Prop} {b q:Nat} {c:Oc} {o:ObjD} {n:Int} (hb:At h b q (c.cells o)) (ob:Ob g h K c o):WF (E g) 86 [.ptr b q,.int .i64 n] h fun v h'=>v=i64 (cU o n)∧h'=h:=by
 have hb:At h b q [.str o.name,c.code,c.data,c.ce,c.ci,c.cf,.str o.entry]:=hb;refine WF.enter fn86 rfl ?_;refine au ?_;refine au ?_;refine ao ?_;refine ap ?_
 by_cases h1:n=1
 ·(try simp only [aE,rL,rD,rB,reduceIte,nf h1]);refine aw ?_;refine aG ?_;refine ax ?_;(try simp only [aE,rL,rD,rB,reduceIte,xG,hb.at cM rfl (j:=1) (by simp),Sl.lenB ob.code cM rfl]);refine WC.ret ?_;refine az ?_;exact ⟨by simp [cU,h1,i64],by trivial⟩
 ·(try simp only [aE,rL,rD,rB,reduceIte,li h1]);refine aw ?_;refine aF ?_;refine ax ?_
  by_cases h2:n=2
  ·(try simp only [aE,rL,rD,rB,reduceIte,nf h2]);refine aw ?_;refine aG ?_;refine ax ?_;(try simp only [aE,rL,rD,rB,reduceIte,xE,hb.at cM rfl (j:=2) (by simp),Sl.lenB ob.data cM rfl]);refine WC.ret ?_;refine az ?_;exact ⟨by simp [cU,h1,h2,i64],by trivial⟩
  ·(try simp only [aE,rL,rD,rB,reduceIte,li h2]);refine aw ?_;refine aF (WC.skip ?_);refine ay ?_;refine WC.ret ?_;refine az ?_;exact ⟨by simp [cU,h1,h2,i64],by trivial⟩
def szS (sec:Nat) (o:ObjD):Nat:=if sec=1 then o.code.length else o.data.length
theorem szS_len {sec:Nat} (h1:1≤sec) (h2:sec≤2) (o:ObjD):cU o (sec:Int)=(szS sec o:Int):=by
 obtain rfl|rfl:sec=1∨sec=2:=by omega
 ·simp [cU,szS]
 ·simp [cU,szS]
def iG (sec:Nat) (os:List ObjD) (a:Nat):Nat:=os.foldl (fun a o=>upN a+szS sec o) a
theorem uv {sec:Nat} {os:List ObjD} {a i:Nat} (hi:i<os.length):iG sec (os.take (i+1)) a=upN (iG sec (os.take i) a)+szS sec os[i]:=by
 unfold iG;rw [bW hi,List.foldl_append];rfl
def stA (sec:Nat) (os:List ObjD) (a i:Nat):Nat:=upN (iG sec (os.take i) a)
def dJ (os:List ObjD):Nat:=iG 1 os 0
def ko (os:List ObjD):Nat:=iG 2 os (dJ os)
def stO (os:List ObjD) (sec i:Nat):Nat:=stA sec os (if sec=1 then 0 else dJ os) i
theorem rt {sec M:Nat}:∀{os:List ObjD} {a:Nat},(∀o∈os,szS sec o≤M)→a≤iG sec os a∧iG sec os a≤a+os.length * (M+16)
 | [],a,_=>by simp [iG]
 | o::r,a,h=>by
  have ih:=rt (sec:=sec) (os:=r) (a:=upN a+szS sec o) fun x hx=>h x (aM _ hx);have h1:=h o (aT ..);have h2:=iS a;have e:iG sec (o::r) a=iG sec r (upN a+szS sec o):=rfl;rw [e,aO,Nat.succ_mul];omega
def stC (n:Nat) (F:Nat→Int):List V:=(List.range (n * 3)).map fun m=>i64 (F m)
theorem kA (n:Nat) (F:Nat→Int):(stC n F).length=n * 3:=by simp [stC]
theorem gw {n m:Nat} {F:Nat→Int} (h:m<n * 3):(stC n F)[m]?=some (i64 (F m)):=by
 rw [stC,List.getElem?_map,List.getElem?_range h];rfl
theorem A3 {n m:Nat} {F:Nat→Int} {x:Int} (h:m<n * 3):o5 (stC n F) m [i64 x]=stC n (fun k=>if k=m then x else F k):=by
 have hl:m+[i64 x].length≤(stC n F).length:=by rw [kA];simp;omega
 apply List.ext_getElem?;intro j
 by_cases hj:j<n * 3
 ·rw [mR hl,gw hj]
  by_cases e:j=m
  ·subst e;rw [if_pos (by simp),gw hj];simp
  ·rw [if_neg (by simp;omega)];simp only [gw hj,if_neg e]
 ·rw [List.getElem?_eq_none (by rw [fO hl,kA];omega),List.getElem?_eq_none (by rw [kA];omega)]
theorem yO {n:Nat} {F G:Nat→Int} (h:∀m,m<n * 3→F m=G m):stC n F=stC n G:=by
 unfold stC;exact List.map_congr_left fun m hm=>by rw [h m (List.mem_range.1 hm)]
theorem AZ (n:Nat):List.replicate (n * 3) (V.int .i64 0)=stC n (fun _=>0):=by
 apply List.ext_getElem?;intro j
 by_cases hj:j<n * 3
 ·rw [List.getElem?_replicate,if_pos hj,gw hj];rfl
 ·rw [List.getElem?_eq_none (by simpa using hj),List.getElem?_eq_none (by rw [kA];omega)]
def stF (base:Int) (os:List ObjD) (sec i:Nat) (m:Nat):Int :=
 if m % 3=0 then 0 else if m % 3<sec∨(m % 3=sec∧m / 3<i) then base+(stO os (m % 3) (m / 3):Nat) else 0
theorem AY {base:Int} {os:List ObjD} {sec i:Nat} (h1:1≤sec) (h2:sec≤2):(fun k=>if k=i * 3+sec then base+(stO os sec i:Nat) else stF base os sec i k)=stF base os sec (i+1):=by
 funext k
 unfold stF
 by_cases e:k=i * 3+sec
 ·subst e;have q1:(i * 3+sec) % 3=sec:=by omega
  have q2:(i * 3+sec) / 3=i:=by omega
  rw [if_pos rfl,q1,q2,if_neg (by omega),if_pos (.inr ⟨rfl,by omega⟩)]
 ·rw [if_neg e]
  by_cases z:k % 3=0
  ·rw [if_pos z,if_pos z]
  ·rw [if_neg z,if_neg z]
   by_cases q:k % 3<sec∨(k % 3=sec∧k / 3<i)
   ·rw [if_pos q,if_pos (by omega)]
   ·rw [if_neg q,if_neg (by omega)]
theorem D4 {base:Int} {os:List ObjD} {sec n m:Nat} (hm:m<n * 3):stF base os sec n m=stF base os (sec+1) 0 m:=by
 unfold stF
 by_cases z:m % 3=0
 ·rw [if_pos z,if_pos z]
 ·rw [if_neg z,if_neg z]
  by_cases q:m % 3<sec∨(m % 3=sec∧m / 3<n)
  ·rw [if_pos q,if_pos (by omega)]
  ·rw [if_neg q,if_neg (by omega)]
theorem D5 {base:Int} {os:List ObjD}:stF base os 1 0=fun _=>0:=by
 funext m
 unfold stF
 by_cases z:m % 3=0
 ·rw [if_pos z]
 ·rw [if_neg z,if_neg (by omega)]
def stG (base:Int) (os:List ObjD) (m:Nat):Int:=stF base os 3 0 m
theorem jM {base:Int} {os:List ObjD} {i sec:Nat} (h1:1≤sec) (h2:sec≤2):stG base os (i * 3+sec)=base+(stO os sec i:Nat):=by
 have q1:(i * 3+sec) % 3=sec:=by omega
 have q2:(i * 3+sec) / 3=i:=by omega
 unfold stG stF;rw [q1,q2,if_neg (by omega),if_pos (by omega)]
end Go.Proofs.OP
