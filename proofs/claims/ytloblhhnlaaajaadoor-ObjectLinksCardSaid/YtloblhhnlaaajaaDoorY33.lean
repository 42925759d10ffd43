/- Walks: (*linker).define. Printed by genL2.py. -/
import Derived.Test.YtloblhhnlaaajaaDoorY32
set_option maxHeartbeats 16000000
set_option maxRecDepth 100000
set_option linter.unusedVariables false
set_option linter.unusedSimpArgs false
set_option linter.defProp false
namespace Go.Proofs.OP
open Go Go.Ev
open Go.Proofs
open Nat renaming reduceLT → rL, reduceEqDiff → rD, reduceBEq → rB
variable {g : T (List V)}
structure GlD where
 cl:Int
 cm:Bool
 obj:Nat
 sym:SymD
def glV (G:GlD):List V:=[i64 G.cl,.bool G.cm,i64 (G.obj:Int)]++iD G.sym
def oB:SymD:=⟨[],0,0,false,false⟩
def zGl:GlD:=⟨0,false,0,oB⟩
def dV (G:GlD):V:=.agg (glV G)
abbrev Dm:=List (List UInt8×GlD)
abbrev lkV (ls:V) (base:Int) (st:V) (db sb:Nat) (im:List V):List V:=[ls,i64 base,st,.map db,.map sb]++im
def oM (i:Nat):List SymD→Dm→Except (Int×Int) Dm
 | [],D=>.ok D
 | s::r,D=>if s.sec=0∨s.cn=false then oM i r D else
  match al s.name D with
  | none=>oM i r (ia s.name ⟨0,s.cm,i,s⟩ D)
  | some G=>if s.cm=true then oM i r D else if G.cm=true then oM i r (ia s.name ⟨0,s.cm,i,s⟩ D) else .error ((i:Int),38)
def qg:Nat→List ObjD→Dm→Except (Int×Int) Dm
 | _,[],D=>.ok D
 | i,o::r,D=>match oM i o.ce D with
  | .error f=>.error f
  | .ok D'=>qg (i+1) r D'
theorem da {α:Type} {L:List α} {i:Nat} (hi:i<L.length):L.drop i=L[i]::L.drop (i+1):=List.drop_eq_getElem_cons hi
theorem Cx {w:Bool} {i:Int} {s:SymD}:dY (E g) 174 [(1,.bool w),(2,.int .i64 i),(3,.agg (iD s))]=some (.agg ([i64 0,.bool w,.int .i64 i]++iD s)):=by
 simp only [dY,gz,cW,nth,cL ty2,cL ty4,cL ty3,cL j5,List.all_cons,List.all_nil,ty2,ty4,ty3,j5,bF,Bool.and_true,aV,cond_false]
 rfl
theorem iR:dY (E g) 35 []=some (.agg (cG (0,0))):=by
 simp only [dY,cP,cW,List.all_cons,List.all_nil,ty3,mG,bF,Bool.and_true,aV,cond_false]
 rfl
theorem cN (p:Int×Int):(cG p).all V.one=true:=rfl
theorem Ak (G:GlD):(glV G).all V.one=true:=rfl
theorem Hm {n0 kb db sb:Nat} {h:H} {ls st:V} {L:List (Oc×ObjD)} {base:Int} {im:List V} (hn0:n0≤h.bX) (a:Obs g h (·<n0) ls L) (fL:∀p∈L,Fits p.2) (lL:L.length<2^30)
  (bk:Has h kb (lkV ls base st db sb im)) (md:Mq h db (mv dV [])) (hkb:kb<h.bX) (hdb:db<h.bX) (kd:kb≠db) (k0:n0≤kb) (d0:n0≤db) :
  WF (E g) 32 [.ptr kb 0] h fun v h'=>Fix (fun b=>b<h.bX∧b≠db) h h'∧match qg 0 (L.map (·.2)) [] with
   | .error f=>v=.agg (cG f)
   | .ok D=>v=.agg (cG (0,0))∧Mq h' db (mv dV D):=by
 refine WF.enter fn32 rfl ?_;refine au ?_;refine cz cP ?_;intro h1 b1 n1 f1;have b1:Has h1 h.bX (cG (0,0)):=b1;refine az ?_;have a1:=a.fix f1;have bk1:=bk.fix f1 hkb;have l1:cx (E g) h1 38 (.ptr kb 0)=some ls:=bk1.at jr rfl 0;refine ap ?_;(try simp only [aE,rL,rD,rB,reduceIte,lV,aH,l1,Sl.lenB a1.sl jr rfl]);refine ao ?_
 refine WC.while (fun m fr hh=>∃ts i D,fr=⟨ts,82,[],32,none⟩∧Fix (fun b=>b<h1.bX∧b≠db) h1 hh∧m=L.length - i∧i≤L.length∧ts.get 0=some (.ptr kb 0)∧ts.get 2=some (.ptr h.bX 0)∧ts.get 12=some ls∧ts.get 13=some (.int .i64 L.length)∧ts.get 14=some (.int .i64 i)∧Mq hh db (mv dV D)∧qg i ((L.map (·.2)).drop i) D=qg 0 (L.map (·.2)) []) ?_ ⟨_,0,[],rfl,Fix.refl _ _,rfl,by omega,?_,?_,?_,?_,?_,md.fix f1 hdb,rfl⟩
 ·rintro m fr hh ⟨ts,i,D,rfl,ff,rfl,hi,t0,t2,t12,t13,t14,mD,hD⟩
  have xh:=ff.bX;have ah:=a1.fix ff;have bkh:=bk1.fix ff ⟨by omega,kd⟩;refine ap ?_;(try simp only [aE,rL,rD,rB,reduceIte,t13,t14]);refine aw ?_
  by_cases hlt:i<L.length
  ·refine aG (WC.skip ?_);refine az ?_;obtain ⟨p,p1,p2⟩:=ah.sl.at (fun _=>rfl) jr rfl iq rfl (by decide) rfl hlt;have p2:=p2 hh fun _ _ _ _ _=>rfl;have hmem:=aP hlt;have obi:=ah.ob _ hmem;have fit:=fL _ hmem;have fsy:=fit.ce
   have hD':qg i ((L.map (·.2)).drop i) D=match oM i L[i].2.ce D with
     | .error f=>.error f
     | .ok D'=>qg (i+1) ((L.map (·.2)).drop (i+1)) D':=by
    rw [da (by simpa using hlt),List.getElem_map];rfl
   rw [hD'] at hD;refine ao ?_;refine ap ?_;(try simp only [aE,rL,rD,rB,reduceIte,t12,t14,p1,p2]);refine cz iq ?_;intro h4 b4 n4 f4;refine az ?_;refine cq b4 iq rfl (aI 7) (Oc.one obi) ?_;intro h5 b5 n5 f5;have b5:Has h5 hh.bX [.str L[i].2.name,L[i].1.code,L[i].1.data,L[i].1.ce,L[i].1.ci,L[i].1.cf,.str L[i].2.entry]:=b5;have F5:cH hh h5:=⟨by omega,fun b hb=>by rw [f5.ca b (by omega),f4.ca b hb]⟩;have ob5:=obi.fix F5
   have l5:cx (E g) h5 74 (.ptr hh.bX 3)=some L[i].1.ce:=b5.at oO rfl 3;have mD5:=mD.fix F5;have bk5:=bkh.fix F5;refine ax ?_;(try simp only [aE,rL,rD,rB,reduceIte,pO,aH,l5,Sl.lenB ob5.ce oO rfl]);refine ao ?_
   refine WC.while (fun m fr hj=>∃ts j D2,fr=⟨ts,82,[],32,none⟩∧Fix (fun b=>b<h5.bX∧b≠db) h5 hj∧m=L[i].2.ce.length - j∧j≤L[i].2.ce.length∧ts.get 0=some (.ptr kb 0)∧ts.get 2=some (.ptr h.bX 0)∧ts.get 3=some (.int .i64 i)∧ts.get 12=some ls∧ts.get 13=some (.int .i64 L.length)∧ts.get 14=some (.int .i64 i)∧ts.get 20=some L[i].1.ce∧ts.get 21=some (.int .i64 L[i].2.ce.length)∧ts.get 22=some (.int .i64 j)∧Mq hj db (mv dV D2)∧oM i (L[i].2.ce.drop j) D2=oM i L[i].2.ce D) ?_ ⟨_,0,D,rfl,Fix.refl _ _,rfl,by omega,?_,?_,?_,?_,?_,?_,?_,?_,?_,mD5,rfl⟩
   ·rintro m fr hj ⟨ts,j,D2,rfl,fj,rfl,hjl,t0,t2,t3,t12,t13,t14,t20,t21,t22,mj,hS⟩
    have xj:=fj.bX;have obj:=ob5.fix fj;have bkj:=bk5.fix fj ⟨by omega,kd⟩;refine ap ?_;(try simp only [aE,rL,rD,rB,reduceIte,t21,t22]);refine aw ?_
    by_cases hlj:j<L[i].2.ce.length
    ·refine aG (WC.skip ?_);refine az ?_;obtain ⟨p,p1,p2⟩:=obj.ce.at jU oO rfl j5 rfl (by decide) rfl hlj;have p2:=p2 hj fun _ _ _ _ _=>rfl;generalize hs:L[i].2.ce[j]=s at p2;have hS':oM i (L[i].2.ce.drop j) D2=oM i (s::L[i].2.ce.drop (j+1)) D2:=by rw [da hlj,hs]
     rw [hS'] at hS;simp only [oM] at hS;refine ao ?_;refine ap ?_;(try simp only [aE,rL,rD,rB,reduceIte,t20,t22,p1,p2]);refine cz j5 ?_;intro h6 b6 n6 f6;refine az ?_;refine cq b6 j5 rfl (aI 5) (jD s) ?_;intro h7 b7 n7 f7;have b7':Has h7 hj.bX (iD s):=b7;have b7:Has h7 hj.bX [.str s.name,i64 s.sec,i64 s.off,.bool s.cn,.bool s.cm]:=b7;have F7:cH hj h7:=⟨by omega,fun b hb=>by rw [f7.ca b (by omega),f6.ca b hb]⟩
     have m7:=mj.fix F7;have bk7:=bkj.fix F7;refine ax ?_
     by_cases hsec:s.sec=0
     ·rw [if_pos (.inl hsec)] at hS;(try simp only [aE,rL,rD,rB,reduceIte,eV,aH,b7.at ty3 rfl,i64,nf hsec,un]);refine aw ?_;refine aG (WC.exit ?_);(try simp only [aE,rL,rD,rB,reduceIte,nb3]);refine ap ?_;(try simp only [aE,rL,rD,rB,reduceIte,t22,ct])
      refine ⟨_,?_,_,j+1,D2,rfl,⟨by omega,fun b hb=>by rw [F7.ca b (by omega),fj.ca b hb]⟩,rfl,by omega,?_⟩
      ·omega
      (try simp only [aE,rL,rD,rB,reduceIte,t0,t2,t3,t12,t13,t14,t20,t21]);refine ⟨aD,aD,aD,aD,aD,aD,aD,aD,?_,m7,hS⟩;rw [cy (by omega) (by omega)];rfl
     ·cases hgl:s.cn with
      | false =>
       rw [if_pos (.inr hgl)] at hS;(try simp only [aE,rL,rD,rB,reduceIte,eV,pN,aH,b7.at ty3 rfl,b7.at ty4 rfl,i64,li hsec,un,cY,hgl]);refine aw ?_;refine aG (WC.exit ?_);(try simp only [aE,rL,rD,rB,reduceIte,nb3]);refine ap ?_;(try simp only [aE,rL,rD,rB,reduceIte,t22,ct])
       refine ⟨_,?_,_,j+1,D2,rfl,⟨by omega,fun b hb=>by rw [F7.ca b (by omega),fj.ca b hb]⟩,rfl,by omega,?_⟩
       ·omega
       (try simp only [aE,rL,rD,rB,reduceIte,t0,t2,t3,t12,t13,t14,t20,t21]);refine ⟨aD,aD,aD,aD,aD,aD,aD,aD,?_,m7,hS⟩;rw [cy (by omega) (by omega)];rfl
      | true =>
       rw [if_neg (by rintro (q | q); · exact hsec q
                      ·rw [hgl] at q;cases q)] at hS
       (try simp only [aE,rL,rD,rB,reduceIte,eV,pN,aH,b7.at ty3 rfl,b7.at ty4 rfl,i64,li hsec,un,cY,hgl]);refine aw ?_;refine aF (WC.skip ?_);refine az ?_;have lk7:=FP (E:=E g) (z:=zGl) (k:=s.name) m7 eE rfl ty9 rfl gz rfl
       ((repeat refine WC.seq ?_);refine WC.draw (plans:=IK) (by kernel_rfl) ?_;simp only [IK,ak])
       (try simp (maxSteps:=2000000) only [aE,rL,rD,rB,reduceIte,af,Chk,t0,fI,kf,aH,bk7.at eE rfl,b7.at ty9 rfl,fP,dj,lk7]);refine cz gz ?_;intro h8 b8 n8 f8;have m8:=m7.fix f8;have bk8:=bk7.fix f8;have c8:=b7.fix f8;have lk8:=FP (E:=E g) (z:=zGl) (k:=s.name) m8 eE rfl ty9 rfl gz rfl;(try simp (maxSteps:=2000000) only [aE,rL,rD,rB,reduceIte,af,Chk,t0,fI,kf,aH,bk8.at eE rfl,c8.at ty9 rfl,fP,dj,lk8])
       refine cq b8 gz rfl (aI 8) (Ak _) ?_;intro h9 b9 n9 f9;have F9:cH h7 h9:=⟨by omega,fun b hb=>by rw [f9.ca b (by omega),f8.ca b hb]⟩;have m9:=m7.fix F9;have bk9:=bk7.fix F9;have c9':=b7'.fix F9;have c9:=b7.fix F9;have lc9:cx (E g) h9 95 (.ptr hj.bX 0)=some (.agg (iD s)):=c9'.agg j5 rfl (aI 5);have lk9:=FP (E:=E g) (z:=zGl) (k:=s.name) m9 eE rfl ty9 rfl gz rfl;(try simp (maxSteps:=2000000) only [aE,rL,rD,rB,reduceIte,af,Chk,t0,fI,kf,aH,bk9.at eE rfl,c9.at ty9 rfl,fP,dj,lk9])
       have b9:Has h9 h7.bX (glV ((al s.name D2).getD zGl)):=b9;have w9:cx (E g) h9 4 (.ptr h7.bX 1)=some (.bool ((al s.name D2).getD zGl).cm):=b9.at ty4 rfl 1;refine ap ?_
       cases hal:al s.name D2 with
       | none =>
        rw [hal] at hS;simp only at hS;(try simp only [aE,rL,rD,rB,reduceIte,hal,Option.isSome_none,un]);refine aw ?_;refine aF (WC.skip ?_);refine ax ?_;(try simp only [aE,rL,rD,rB,reduceIte,hal,Option.isSome_none,un,cY,bE]);refine aw ?_;refine aG ?_;refine az ?_
        ((repeat refine WC.seq ?_);refine WC.draw (plans:=vE) (by kernel_rfl) ?_;simp only [vE,ak])
        (try simp (maxSteps:=2000000) only [aE,rL,rD,rB,reduceIte,af,Chk,t0,t3,fI,kf,jR,aH,bk9.at eE rfl,c9.at ty9 rfl,c9.at ty4 rfl,lc9,Cx,i64,iA]);have hv:(V.agg (V.int .i64 0::V.bool s.cm::V.int .i64 i::iD s))=dV ⟨0,s.cm,i,s⟩:=rfl;rw [hv];refine jX m9 eE rfl ty9 rfl gz ?_;intro hu mu nu fu;rw [sW] at mu;(try simp (maxSteps:=2000000) only [aE,rL,rD,rB,reduceIte,af,Chk]);(try simp only [aE,rL,rD,rB,reduceIte,nb3])
        refine ap ?_;(try simp only [aE,rL,rD,rB,reduceIte,t22,ct])
        refine ⟨_,?_,_,j+1,(ia s.name ⟨0,s.cm,i,s⟩ D2),rfl,⟨by omega,fun b hb=>by rw [fu.ca b hb.2,F9.ca b (by omega),F7.ca b (by omega),fj.ca b hb]⟩,rfl,by omega,?_⟩
        ·omega
        (try simp only [aE,rL,rD,rB,reduceIte,t0,t2,t3,t12,t13,t14,t20,t21]);refine ⟨aD,aD,aD,aD,aD,aD,aD,aD,?_,mu,hS⟩;rw [cy (by omega) (by omega)];rfl
       | some G =>
        rw [hal] at hS w9;simp only [Option.getD_some] at hS w9
        cases hw:s.cm with
        | true =>
         rw [if_pos hw] at hS
         cases hG:G.cm with
         | true =>
          rw [hG] at w9;(try simp only [aE,rL,rD,rB,reduceIte,hal,bF,un,pP,aH,w9,cY,aV]);refine aw ?_;refine aF (WC.skip ?_);refine ax ?_;(try simp only [aE,rL,rD,rB,reduceIte,hal,bF,un,cY,aV,pP,jR,aH,w9,c9.at ty4 rfl,hw]);refine aw ?_;refine aF (WC.skip ?_);(try simp only [aE,rL,rD,rB,reduceIte,nb3]);refine ap ?_;(try simp only [aE,rL,rD,rB,reduceIte,t22,ct])
          refine ⟨_,?_,_,j+1,D2,rfl,⟨by omega,fun b hb=>by rw [F9.ca b (by omega),F7.ca b (by omega),fj.ca b hb]⟩,rfl,by omega,?_⟩
          ·omega
          (try simp only [aE,rL,rD,rB,reduceIte,t0,t2,t3,t12,t13,t14,t20,t21]);refine ⟨aD,aD,aD,aD,aD,aD,aD,aD,?_,m9,hS⟩;rw [cy (by omega) (by omega)];rfl
         | false =>
          rw [hG] at w9;(try simp only [aE,rL,rD,rB,reduceIte,hal,bF,un,pP,jR,aH,w9,cY,aV,bE,c9.at ty4 rfl,hw]);refine aw ?_;refine aF (WC.skip ?_);refine ax ?_;(try simp only [aE,rL,rD,rB,reduceIte,hal,bF,un,cY,aV,pP,jR,aH,w9,c9.at ty4 rfl,hw]);refine aw ?_;refine aF (WC.skip ?_);(try simp only [aE,rL,rD,rB,reduceIte,nb3]);refine ap ?_;(try simp only [aE,rL,rD,rB,reduceIte,t22,ct])
          refine ⟨_,?_,_,j+1,D2,rfl,⟨by omega,fun b hb=>by rw [F9.ca b (by omega),F7.ca b (by omega),fj.ca b hb]⟩,rfl,by omega,?_⟩
          ·omega
          (try simp only [aE,rL,rD,rB,reduceIte,t0,t2,t3,t12,t13,t14,t20,t21]);refine ⟨aD,aD,aD,aD,aD,aD,aD,aD,?_,m9,hS⟩;rw [cy (by omega) (by omega)];rfl
        | false =>
         rw [if_neg (by rw [hw];decide)] at hS
         cases hG:G.cm with
         | true =>
          rw [if_pos hG] at hS;rw [hG] at w9;(try simp only [aE,rL,rD,rB,reduceIte,hal,bF,un,pP,aH,w9,cY,aV]);refine aw ?_;refine aF (WC.skip ?_);refine ax ?_;(try simp only [aE,rL,rD,rB,reduceIte,hal,bF,un,cY,aV,bE,pP,jR,aH,w9,c9.at ty4 rfl,hw]);refine aw ?_;refine aG ?_;refine az ?_
          ((repeat refine WC.seq ?_);refine WC.draw (plans:=vE) (by kernel_rfl) ?_;simp only [vE,ak])
          (try simp (maxSteps:=2000000) only [aE,rL,rD,rB,reduceIte,af,Chk,t0,t3,fI,kf,jR,aH,bk9.at eE rfl,c9.at ty9 rfl,c9.at ty4 rfl,lc9,Cx,i64,iA]);have hv:(V.agg (V.int .i64 0::V.bool s.cm::V.int .i64 i::iD s))=dV ⟨0,s.cm,i,s⟩:=rfl;rw [hv];refine jX m9 eE rfl ty9 rfl gz ?_;intro hu mu nu fu;rw [sW] at mu;(try simp (maxSteps:=2000000) only [aE,rL,rD,rB,reduceIte,af,Chk]);(try simp only [aE,rL,rD,rB,reduceIte,nb3])
          refine ap ?_;(try simp only [aE,rL,rD,rB,reduceIte,t22,ct])
          refine ⟨_,?_,_,j+1,(ia s.name ⟨0,s.cm,i,s⟩ D2),rfl,⟨by omega,fun b hb=>by rw [fu.ca b hb.2,F9.ca b (by omega),F7.ca b (by omega),fj.ca b hb]⟩,rfl,by omega,?_⟩
          ·omega
          (try simp only [aE,rL,rD,rB,reduceIte,t0,t2,t3,t12,t13,t14,t20,t21]);refine ⟨aD,aD,aD,aD,aD,aD,aD,aD,?_,mu,hS⟩;rw [cy (by omega) (by omega)];rfl
         | false =>
          rw [if_neg (by rw [hG];decide)] at hS;rw [hG] at w9;rw [←hS] at hD;simp only at hD;rw [←hD];have br:=b1.fix ff ⟨by omega,by omega⟩;have br:=(((br.fix F5).fix fj ⟨by omega,by omega⟩).fix F7).fix F9;(try simp only [aE,rL,rD,rB,reduceIte,hal,bF,un,pP,jR,aH,w9,cY,aV,bE,c9.at ty4 rfl,hw]);refine aw ?_;refine aG ?_;refine ax ?_;(try simp only [aE,rL,rD,rB,reduceIte,t3]);refine (lC).mono fun v hb ⟨eb,fb⟩=>?_
          subst eb;have xb:=fb.bX;(try simp only [aE,rL,rD,rB,reduceIte,t2]);refine cq (br.fix fb) cP rfl (aI 2) (cN _) ?_;intro hc bc nc fc;have lc:cx (E g) hc 35 (.ptr h.bX 0)=some (.agg (cG ((i:Int),38))):=bc.agg cP rfl (aI 2);refine az ?_;refine WC.ret ?_;(try simp only [aE,rL,rD,rB,reduceIte,t2,lc]);exact ⟨⟨by omega,fun b hb=>by rw [fc.ca b (by omega),fb.ca b (by omega),F9.ca b (by omega),F7.ca b (by omega),fj.ca b ⟨by omega,hb.2⟩,F5.ca b (by omega),ff.ca b ⟨by omega,hb.2⟩,f1.ca b hb.1]⟩,by trivial⟩
    ·refine aF (WC.exit ?_);have:j=L[i].2.ce.length:=by omega
     subst this;rw [bU] at hS;simp only [oM] at hS;rw [←hS] at hD;(try simp only [aE,rL,rD,rB,reduceIte,nb2]);refine ap ?_;(try simp only [aE,rL,rD,rB,reduceIte,t14,ct]);have FH:Fix (fun b=>b<h1.bX∧b≠db) h1 hj:=⟨by omega,fun b hb=>by rw [fj.ca b ⟨by omega,hb.2⟩,F5.ca b (by omega),ff.ca b hb]⟩
     refine ⟨_,?_,_,i+1,D2,rfl,FH,rfl,by omega,?_⟩
     ·omega
     (try simp only [aE,rL,rD,rB,reduceIte,t0,t2,t12,t13]);refine ⟨aD,aD,aD,aD,?_,mj,hD⟩;rw [cy (by omega) (by omega)];rfl
   all_goals (try simp only [aE,rL,rD,rB,reduceIte,t0,t2,t12,t13,t14])
   all_goals (first|done|rfl|trivial|simp)
  ·refine aF (WC.exit ?_);have:i=L.length:=by omega
   subst this
   have hD0:qg 0 (L.map (·.2)) []=.ok D:=by
    rw [←hD,bK (by simp)];rfl
   rw [hD0];have br:=b1.fix ff ⟨by omega,by omega⟩;refine ax ?_;(try simp only [aE,rL,rD,rB,reduceIte,iR]);(try simp only [aE,rL,rD,rB,reduceIte,t2]);refine cq br cP rfl (aI 2) (cN _) ?_;intro h9 b9 n9 f9;have l9:cx (E g) h9 35 (.ptr h.bX 0)=some (.agg (cG (0,0))):=b9.agg cP rfl (aI 2);refine az ?_;refine WC.ret ?_;(try simp only [aE,rL,rD,rB,reduceIte,t2,l9]);exact ⟨⟨by omega,fun b hb=>by rw [f9.ca b (by omega),ff.ca b ⟨by omega,hb.2⟩,f1.ca b hb.1]⟩,by trivial,mD.fix f9⟩
 all_goals (try simp only [aE,rL,rD,rB,reduceIte])
 all_goals (first|done|rfl|trivial|simp)
end Go.Proofs.OP
