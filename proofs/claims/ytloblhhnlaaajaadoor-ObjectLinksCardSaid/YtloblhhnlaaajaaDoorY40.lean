/- Walks: object.Link. Printed by genL9.py. -/
import Derived.Test.YtloblhhnlaaajaaDoorY39
set_option maxHeartbeats 64000000
set_option maxRecDepth 100000
set_option linter.unusedVariables false
set_option linter.unusedSimpArgs false
set_option linter.defProp false
namespace Go.Proofs.OP
open Go Go.Ev
open Go.Proofs
open Nat renaming reduceLT → rL, reduceEqDiff → rD, reduceBEq → rB
variable {g : T (List V)}
abbrev kY:List V:=[i64 0,.nils,i64 0,i64 0,.nils,.nils,.nils]
theorem dZ:dY (E g) 32 []=some (.agg kY):=by
 simp only [dY,ir,cW,List.all_cons,List.all_nil,ty2,cM,ga,fY,cD,bF,Bool.and_true,aV,cond_false]
 rfl
theorem bld105 {ls:V} {base:Int} {db sb:Nat} (h1:ls.cells=[ls]):dY (E g) 105 [(0,ls),(1,.int .i64 base),(3,.map db),(4,.map sb)]=some (.agg (lkV ls base .nils db sb (im0 0))):=by
 simp only [dY,vT,cW,nth,cL jr,cL ty2,cL eE,cL ld,h1,List.all_cons,List.all_nil,jr,ty2,eK,eE,ld,ir,bF,Bool.and_true,aV,cond_false]
 rfl
theorem qN {i:Nat} {f:Int×Int}:∀{ys:List SymD} {D:Dm},oM i ys D=.error f→f.2=38
 | [],D,h=>by cases h
 | s::r,D,h=>by
  simp only [oM] at h
  split at h
  ·exact qN h
  ·split at h
   ·exact qN h
   ·split at h
    ·exact qN h
    ·split at h
     ·exact qN h
     ·injection h with h;rw [←h]
theorem Cq {f:Int×Int}:∀{r:List ObjD} {i:Nat} {D:Dm},qg i r D=.error f→f.2=38
 | [],i,D,h=>by cases h
 | o::r,i,D,h=>by
  simp only [qg] at h
  split at h
  ·rename_i q;injection h with h;subst h;exact qN q
  ·exact Cq h
theorem wF {i:Nat} {own:Sm} {D:Dm} {f:Int×Int}:∀{ys:List RelD} {S:St},resR i own D ys S=.error f→f.2=22
 | [],S,h=>by cases h
 | r::rest,S,h=>by
  simp only [resR] at h
  split at h
  ·exact wF h
  ·split at h
   ·injection h with h;rw [←h]
   ·exact wF h
theorem Br {D:Dm} {f:Int×Int}:∀{r:List ObjD} {i:Nat} {S:St},qf D i r S=.error f→f.2=22
 | [],i,S,h=>by cases h
 | o::r,i,S,h=>by
  simp only [qf] at h
  split at h
  ·rename_i q;injection h with h;subst h;exact wF q
  ·exact Br h
theorem Ck {base code:Int} {D:Dm} {f:Int×Int}:∀{r:List ObjD} {i:Nat},tR base code D i r=.error f→f.2=14
 | [],i,h=>by cases h
 | o::r,i,h=>by
  simp only [tR] at h
  split at h
  ·exact Ck h
  ·split at h
   ·injection h with h;rw [←h]
   ·cases h
theorem u7 {os:List ObjD} {N:Nat} (hN:fM os≤N):∀{r:List ObjD} {i:Nat} {bs:List UInt8},os.drop i=r→bs.length=N→(pg os i r bs).length=N
 | [],i,bs,_,h=>h
 | o::r,i,bs,hi,h=>by
  have hlt:i<os.length:=by
   rcases Nat.lt_or_ge i os.length with q|q
   ·exact q
   ·rw [bK q] at hi;cases hi
  have ho:os[i]=o:=by
   have:(os.drop i)[0]?=some o:=by rw [hi];rfl
   rw [List.getElem?_drop] at this;simpa [List.getElem?_eq_getElem hlt] using this
  have hi':os.drop (i+1)=r:=by rw [←List.drop_drop,hi];rfl
  have q1:=mK hlt;have q2:=mJ hlt;rw [ho] at q1 q2;simp only [pg];have h1:(er bs (stO os 1 i) o.code).length=N:=by rw [dP (by omega),h]
  exact u7 hN hi' (by rw [dP (by omega),h1])
theorem uW {base:Int} {os:List ObjD} {own:Sm} {D:Dm} {S:St} {i N:Nat} {o:ObjD} (hi:os[i]?=some o) (hN:fM os≤N):∀{r:List RelD} {bs:List UInt8},(∀x∈r,RelOk o x)→bs.length=N→(yy base os own D S i r bs).length=N
 | [],bs,_,h=>h
 | x::r,bs,hr,h=>by
  obtain ⟨r1,r2,r3,r4,r5,r6,r7,r8,_⟩:=hr x (aT ..);have hlt:i<os.length:=(List.getElem?_eq_some_iff.1 hi).1;have ho:os[i]=o:=(List.getElem?_eq_some_iff.1 hi).2;have q1:=mK hlt;have q2:=mJ hlt;rw [ho] at q1 q2
  have hb:stO os x.sec.toNat i+x.off.toNat+4≤N:=by
   have:x.sec=1∨x.sec=2:=by omega
   rcases this with e|e
   ·rw [e] at r4 ⊢;simp only [cU] at r4;show stO os 1 i+x.off.toNat+4≤_;simp at r4;omega
   ·rw [e] at r4 ⊢;simp only [cU] at r4;show stO os 2 i+x.off.toNat+4≤_;simp at r4;omega
  simp only [yy];exact uW hi hN (fun y hy=>hr y (aM _ hy)) (by rw [dP (by rw [dw];omega),h])
theorem uV {base:Int} {os:List ObjD} {D:Dm} {S:St} {N:Nat}:∀{r:List ObjD} {i:Nat} {bs:List UInt8},os.drop i=r→(∀o∈os,ObjGd o)→fM os≤N→bs.length=N→(sG base os D S i r bs).length=N
 | [],i,bs,_,_,_,h=>h
 | o::r,i,bs,hi,hok,hN,h=>by
  have ho:os[i]?=some o:=by
   have:(os.drop i)[0]?=some o:=by rw [hi];rfl
   simpa using this
  have hi':os.drop (i+1)=r:=by rw [←List.drop_drop,hi];rfl
  simp only [sG];exact uV hi' hok hN (uW ho hN (hok o (bR ho)).ci h)
theorem link_ok {h:H} {ls:V} {A:List (Oc×ObjD)} {base:Int} (a:Obs g h (·<h.bX) ls A) (w:Whole ls A.length) (hg:g.get 0=some jA) (fA:∀p∈A,Fits p.2) (lA:A.length<2^30) :
  WF (E g) 10 [ls,.int .i64 base] h fun v h'=>cH h h'∧match mY (A.map (·.2)) base with
   | .error f=>v=.tuple [.agg kY,.agg (cG f)]
   | .ok x=>∃c,v=.tuple [.agg (c.cells x),.agg (cG (0,0))]∧Im g h' (fun b=>h.bX≤b∧b<h'.bX) c x:=by
 have hlo:(A.map (·.2)).length=A.length:=by simp
 generalize hos:A.map (·.2)=os at *;refine WF.enter fn10 rfl ?_;refine au ?_;refine cz ir ?_;intro h1 b1 n1 f1;have b1:Has h1 h.bX kY:=b1;refine az ?_;refine cz cP ?_;intro h2 b2 n2 f2;have b2:Has h2 h1.bX (cG (0,0)):=b2;refine az ?_;have b1:=b1.fix f2;have F2:cH h h2:=⟨by omega,fun b hb=>by rw [f2.ca b (by omega),f1.ca b hb]⟩;have a2:=a.fix F2 fun b hb=>hb;refine ao ?_;refine ap ?_;(try simp only [aE,rL,rD,rB,reduceIte,Sl.lenB a2.sl jr rfl])
 refine aw ?_
 by_cases c1:A.length=0
 ·have hP:mY os base=.error (0,9):=by unfold mY;rw [if_pos (by omega)]
  rw [hP];refine WC.cond (b:=true) (by (try simp only [aE,rL,rD,rB,reduceIte,nf (show ((A.length:Nat):Int)=0 by omega)]);(try simp);(try omega)) ?_;refine ax ?_;(try simp only [aE,rL,rD,rB,reduceIte,dZ]);refine (lC).mono fun v hb ⟨eb,fb⟩=>?_;subst eb;have xb:=fb.bX;(try simp only [aE,rL,rD,rB,reduceIte,dZ]);refine cq (b1.fix fb) ir rfl (aI 7) rfl ?_;intro hc bc nc fc;(try simp only [aE,rL,rD,rB,reduceIte,dZ])
  refine cq ((b2.fix fb).fix fc) cP rfl (aI 2) (cN _) ?_;intro hd bd nd fd;have l1:cx (E g) hd 32 (.ptr h.bX 0)=some (.agg kY):=(bc.fix fd).agg ir rfl (aI 7);have l2:cx (E g) hd 35 (.ptr h1.bX 0)=some (.agg (cG (0,9))):=bd.agg cP rfl (aI 2);refine az ?_;refine WC.ret ?_;(try simp only [aE,rL,rD,rB,reduceIte,l1,l2]);exact ⟨⟨by omega,fun b hb=>by rw [fd.ca b (by omega),fc.ca b (by omega),fb.ca b (by omega),F2.ca b hb]⟩,by trivial⟩
 ·refine WC.cond (b:=false) (by (try simp only [aE,rL,rD,rB,reduceIte,li (show ¬((A.length:Nat):Int)=0 by omega)]);(try simp);(try omega)) ?_;refine ax ?_;(try simp only [aE,rL,rD,rB,reduceIte,Sl.lenB a2.sl jr rfl]);refine aw ?_
  by_cases c2:20<A.length
  ·have hP:mY os base=.error (0,18):=by unfold mY;rw [if_neg (by omega),if_pos (by omega)]
   rw [hP];refine aG ?_;refine ax ?_;(try simp only [aE,rL,rD,rB,reduceIte,dZ]);refine (lC).mono fun v hb ⟨eb,fb⟩=>?_;subst eb;have xb:=fb.bX;(try simp only [aE,rL,rD,rB,reduceIte,dZ]);refine cq (b1.fix fb) ir rfl (aI 7) rfl ?_;intro hc bc nc fc;(try simp only [aE,rL,rD,rB,reduceIte,dZ]);refine cq ((b2.fix fb).fix fc) cP rfl (aI 2) (cN _) ?_;intro hd bd nd fd;have l1:cx (E g) hd 32 (.ptr h.bX 0)=some (.agg kY):=(bc.fix fd).agg ir rfl (aI 7)
   have l2:cx (E g) hd 35 (.ptr h1.bX 0)=some (.agg (cG (0,18))):=bd.agg cP rfl (aI 2);refine az ?_;refine WC.ret ?_;(try simp only [aE,rL,rD,rB,reduceIte,l1,l2]);exact ⟨⟨by omega,fun b hb=>by rw [fd.ca b (by omega),fc.ca b (by omega),fb.ca b (by omega),F2.ca b hb]⟩,by trivial⟩
  ·refine aF ?_;refine ax ?_
   have hcase:(base<0∨1073741824<base∨base.tmod 16≠0)∨(¬base<0∧¬1073741824<base∧base.tmod 16=0):=by
    by_cases q1:base<0
    ·exact .inl (.inl q1)
    ·by_cases q2:1073741824<base
     ·exact .inl (.inr (.inl q2))
     ·by_cases q3:base.tmod 16=0
      ·exact .inr ⟨q1,q2,q3⟩
      ·exact .inl (.inr (.inr q3))
   have rem16:∀{h:H} {c:Bool} {t:Nat} {x:Int},fJ (E g) h c .rem t (.int .i64 x) (.int .i64 16)=some (.int .i64 (x.tmod 16)):=pV (by decide)
   rcases hcase with hbad|⟨q1,q2,q3⟩
   ·have hP:mY os base=.error (0,34):=by unfold mY;rw [if_neg (by omega),if_neg (by omega),if_pos hbad]
    rw [hP]
    by_cases q1:base<0
    ·(try simp only [aE,rL,rD,rB,reduceIte,aJ q1,un]);refine aw ?_;refine aG ?_;refine ax ?_;(try simp only [aE,rL,rD,rB,reduceIte,dZ]);refine (lC).mono fun v hb ⟨eb,fb⟩=>?_;subst eb;have xb:=fb.bX;(try simp only [aE,rL,rD,rB,reduceIte,dZ]);refine cq (b1.fix fb) ir rfl (aI 7) rfl ?_;intro hc bc nc fc;(try simp only [aE,rL,rD,rB,reduceIte,dZ]);refine cq ((b2.fix fb).fix fc) cP rfl (aI 2) (cN _) ?_;intro hd bd nd fd
     have l1:cx (E g) hd 32 (.ptr h.bX 0)=some (.agg kY):=(bc.fix fd).agg ir rfl (aI 7);have l2:cx (E g) hd 35 (.ptr h1.bX 0)=some (.agg (cG (0,34))):=bd.agg cP rfl (aI 2);refine az ?_;refine WC.ret ?_;(try simp only [aE,rL,rD,rB,reduceIte,l1,l2]);exact ⟨⟨by omega,fun b hb=>by rw [fd.ca b (by omega),fc.ca b (by omega),fb.ca b (by omega),F2.ca b hb]⟩,by trivial⟩
    ·by_cases q2:1073741824<base
     ·(try simp only [aE,rL,rD,rB,reduceIte,aK q1,aJ q2,un]);refine aw ?_;refine aG ?_;refine ax ?_;(try simp only [aE,rL,rD,rB,reduceIte,dZ]);refine (lC).mono fun v hb ⟨eb,fb⟩=>?_;subst eb;have xb:=fb.bX;(try simp only [aE,rL,rD,rB,reduceIte,dZ]);refine cq (b1.fix fb) ir rfl (aI 7) rfl ?_;intro hc bc nc fc;(try simp only [aE,rL,rD,rB,reduceIte,dZ]);refine cq ((b2.fix fb).fix fc) cP rfl (aI 2) (cN _) ?_
      intro hd bd nd fd;have l1:cx (E g) hd 32 (.ptr h.bX 0)=some (.agg kY):=(bc.fix fd).agg ir rfl (aI 7);have l2:cx (E g) hd 35 (.ptr h1.bX 0)=some (.agg (cG (0,34))):=bd.agg cP rfl (aI 2);refine az ?_;refine WC.ret ?_;(try simp only [aE,rL,rD,rB,reduceIte,l1,l2]);exact ⟨⟨by omega,fun b hb=>by rw [fd.ca b (by omega),fc.ca b (by omega),fb.ca b (by omega),F2.ca b hb]⟩,by trivial⟩
     ·have q3:base.tmod 16≠0:=by
       rcases hbad with q|q|q
       ·exact absurd q q1
       ·exact absurd q q2
       ·exact q
      (try simp only [aE,rL,rD,rB,reduceIte,aK q1,aK q2,un,rem16,kz q3]);refine aw ?_;refine aG ?_;refine ax ?_;(try simp only [aE,rL,rD,rB,reduceIte,dZ]);refine (lC).mono fun v hb ⟨eb,fb⟩=>?_;subst eb;have xb:=fb.bX;(try simp only [aE,rL,rD,rB,reduceIte,dZ]);refine cq (b1.fix fb) ir rfl (aI 7) rfl ?_;intro hc bc nc fc;(try simp only [aE,rL,rD,rB,reduceIte,dZ]);refine cq ((b2.fix fb).fix fc) cP rfl (aI 2) (cN _) ?_
      intro hd bd nd fd;have l1:cx (E g) hd 32 (.ptr h.bX 0)=some (.agg kY):=(bc.fix fd).agg ir rfl (aI 7);have l2:cx (E g) hd 35 (.ptr h1.bX 0)=some (.agg (cG (0,34))):=bd.agg cP rfl (aI 2);refine az ?_;refine WC.ret ?_;(try simp only [aE,rL,rD,rB,reduceIte,l1,l2]);exact ⟨⟨by omega,fun b hb=>by rw [fd.ca b (by omega),fc.ca b (by omega),fb.ca b (by omega),F2.ca b hb]⟩,by trivial⟩
   ·have bas:Bas base:=⟨by omega,by omega,q3⟩
    have hP0:mY os base=(match eB 0 os with
     | .error f=>.error f
     | .ok _=>match qg 0 os [] with
      | .error f=>.error f
      | .ok D=>match qf D 0 os [] with
       | .error f=>.error f
       | .ok S=>if 131072<eQ os S then .error (0,18) else
        match tR base (upN (dJ os):Nat) (D1 base os D) 0 os with
        | .error f=>.error f
        | .ok e=>.ok ⟨base,sZ base (fE (D1 base os D) (S1 base os S) (dK ((S1 base os S).map (·.1)))) (sG base os (D1 base os D) (S1 base os S) 0 os (pg os 0 os (List.replicate (eQ os S) 0))),(upN (dJ os):Nat),e,jC (D1 base os D) (dK ((D1 base os D).map (·.1))),fE (D1 base os D) (S1 base os S) (dK ((S1 base os S).map (·.1))),gy os []⟩):=by
     conv=>lhs;unfold mY
     rw [if_neg (by omega), if_neg (by omega), if_neg (by rintro (q | q | q); · exact q1 q
                                                          ·exact q2 q
                                                          ·exact q q3)]
     rfl
    (try simp only [aE,rL,rD,rB,reduceIte,aK q1,aK q2,un,rem16,p7 q3]);refine aw ?_;refine aF (WC.skip ?_);refine ax ?_;(try simp only [aE,rL,rD,rB,reduceIte,Sl.lenB a2.sl jr rfl]);refine ao ?_
    refine WC.while (fun m fr hh=>∃ts i,fr=⟨ts,92,[],10,none⟩∧cH h2 hh∧m=A.length - i∧i≤A.length∧ts.get 0=some ls∧ts.get 1=some (.int .i64 base)∧ts.get 4=some (.ptr h.bX 0)∧ts.get 5=some (.ptr h1.bX 0)∧ts.get 39=some ls∧ts.get 40=some (.int .i64 A.length)∧ts.get 41=some (.int .i64 i)∧eB i (os.drop i)=eB 0 os) ?_ ⟨_,0,rfl,Fix.refl _ _,rfl,by omega,?_,?_,?_,?_,?_,?_,?_,rfl⟩
    ·rintro m fr hh ⟨ts,i,rfl,ff,rfl,hi,t0,t1,t4,t5,t39,t40,t41,hC⟩
     have xh:=ff.bX;have ah:=a2.fix ff;have b1h:=b1.fix ff;have b2h:=b2.fix ff;refine ap ?_;(try simp only [aE,rL,rD,rB,reduceIte,t40,t41]);refine aw ?_
     by_cases hlt:i<A.length
     ·refine aG (WC.skip ?_);refine az ?_;obtain ⟨p,p1,p2⟩:=ah.sl.at (fun _=>rfl) jr rfl iq rfl (by decide) rfl hlt;have p2:=p2 hh fun _ _ _ _ _=>rfl;have hmem:=aP hlt;have obi:=ah.ob _ hmem;have hoi:os[i]'(by omega)=A[i].2:=by subst hos;simp
      rw [da (by omega),hoi] at hC;simp only [eB] at hC;refine ao ?_;refine ap ?_;(try simp only [aE,rL,rD,rB,reduceIte,t39,t41,p1,p2]);refine cz iq ?_;intro h4 b4 n4 f4;refine az ?_;refine cq b4 iq rfl (aI 7) (Oc.one obi) ?_;intro h5 b5 n5 f5;have F5:cH hh h5:=⟨by omega,fun b hb=>by rw [f5.ca b (by omega),f4.ca b hb]⟩;have c5:Has h5 hh.bX (A[i].1.cells A[i].2):=b5;have l5:cx (E g) h5 77 (.ptr hh.bX 0)=some (.agg (A[i].1.cells A[i].2)):=c5.agg iq rfl (aI 7)
      refine ax ?_;(try simp only [aE,rL,rD,rB,reduceIte,l5]);refine (Js ((obi.fix F5).up) (fA _ hmem)).mono fun v h6 ⟨e6,f6⟩=>?_;subst e6;have x6:=f6.bX;have F6:cH hh h6:=⟨by omega,fun b hb=>by rw [f6.ca b (by omega),F5.ca b hb]⟩;refine ax ?_;(try simp only [aE,rL,rD,rB,reduceIte,i64,iK]);refine aw ?_
      by_cases he:ig A[i].2=0
      ·rw [if_pos he] at hC;refine WC.cond (b:=false) (by (try simp only [aE,rL,rD,rB,reduceIte,p7 he]);(try simp);(try omega)) (WC.skip ?_);refine ax ?_;(try simp only [aE,rL,rD,rB,reduceIte,t41,ct])
       refine ⟨_,?_,_,i+1,rfl,⟨by omega,fun b hb=>by rw [F6.ca b (by omega),ff.ca b hb]⟩,rfl,by omega,?_⟩
       ·omega
       (try simp only [aE,rL,rD,rB,reduceIte,t0,t1,t4,t5,t39,t40]);refine ⟨aD,aD,aD,aD,aD,aD,?_,hC⟩;rw [cy (by omega) (by omega)];rfl
      ·rw [if_neg he] at hC;rw [hP0,←hC];have b1h:=b1h.fix F6;have b2h:=b2h.fix F6;refine WC.cond (b:=true) (by (try simp only [aE,rL,rD,rB,reduceIte,kz he]);(try simp);(try omega)) ?_;refine ax ?_;(try simp only [aE,rL,rD,rB,reduceIte,dZ,t4,t5,i64]);refine (lC).mono fun v hb ⟨eb,fb⟩=>?_;subst eb;have xb:=fb.bX;(try simp only [aE,rL,rD,rB,reduceIte,dZ,t4,t5,i64]);refine cq (b1h.fix fb) ir rfl (aI 7) rfl ?_
       intro hc bc nc fc;(try simp only [aE,rL,rD,rB,reduceIte,dZ,t4,t5,i64]);refine cq ((b2h.fix fb).fix fc) cP rfl (aI 2) (cN _) ?_;intro hd bd nd fd;have l1:cx (E g) hd 32 (.ptr h.bX 0)=some (.agg kY):=(bc.fix fd).agg ir rfl (aI 7);have l2:cx (E g) hd 35 (.ptr h1.bX 0)=some (.agg (cG ((i:Int),ig A[i].2))):=bd.agg cP rfl (aI 2);refine az ?_;refine WC.ret ?_;(try simp only [aE,rL,rD,rB,reduceIte,l1,l2,t4,t5,i64])
       exact ⟨⟨by omega,fun b hb=>by rw [fd.ca b (by omega),fc.ca b (by omega),fb.ca b (by omega),F6.ca b (by omega),ff.ca b (by omega),F2.ca b hb]⟩,by trivial⟩
     ·refine aF (WC.exit ?_);have:i=A.length:=by omega
      subst this;rw [bK (by omega)] at hC;have hC:eB 0 os=.ok ():=hC.symm;have hok:=ou hC;(try simp only [aE,rL,rD,rB,reduceIte,nb1]);refine ap ?_;(try simp only [aE,rL,rD,rB,reduceIte,t0,t1]);refine px ?_;intro h6 m6 n6 f6;refine az ?_;refine px ?_;intro h7 m7 n7 f7;have m6:=m6.fix f7;have one:ls.cells=[ls]:=(Sl.one ah.sl).1;have hone:ls.one=true:=(Sl.one ah.sl).2;(try simp only [aE,rL,rD,rB,reduceIte,t0,t1,bld105 one])
      refine eI (v:=.agg (lkV ls base .nils hh.bX h6.bX (im0 0))) (by (try simp only [aE,rL,rD,rB,reduceIte])) ?_;intro h8 b8 n8 f8;have b8:Has h8 h7.bX (lkV ls base .nils hh.bX h6.bX (im0 0)):=b8;have m6:=m6.fix f8;have m7:=m7.fix f8;have F8:cH hh h8:=⟨by omega,fun b hb=>by rw [f8.ca b (by omega),f7.ca b (by omega),f6.ca b hb]⟩;have a8:=ah.fix F8;have b1h:=b1h.fix F8;have b2h:=b2h.fix F8;have F8h:cH h h8:=⟨by omega,fun b hb=>by rw [F8.ca b (by omega),ff.ca b (by omega),F2.ca b hb]⟩
      generalize hkb:h7.bX=kb at *;generalize hdb:hh.bX=db at *;generalize hsb:h6.bX=sb at *;refine ax ?_;(try simp only [aE,rL,rD,rB,reduceIte,pz]);refine de (cs:=[.func 32 [.ptr kb 0] [],.func 33 [.ptr kb 0] [],.func 34 [.ptr kb 0] [],.func 35 [.ptr kb 0] []]) HN rfl HO rfl (by decide) (by decide) rfl rfl ?_;intro h9 bf9 n9 f9;have bf9:=bf9.sl.block (c:=0) (by decide);have m6:Mq h9 db (mv dV []):=m6.fix f9
      have m7:Mq h9 sb (mv i64 []):=m7.fix f9;have b9:=b8.fix f9;have a9:=a8.fix f9;have b1h:=b1h.fix f9;have b2h:=b2h.fix f9;have F9h:cH h h9:=⟨by omega,fun b hb=>by rw [f9.ca b (by omega),F8h.ca b hb]⟩;generalize hfb:h8.bX=fb at *
      have lf:∀(k:Nat),k<4→cK (E g) 107 (.slice fb 0 4 (.lit 4)) (.int .i64 k)=some (.ptr fb k):=fun k hk=>by
       have:=ef (g:=g) (b:=fb) (o:=0) (n:=4) (k:=k) (c:=.lit 4) (ik:=.i64) HN rfl HO hk;simpa using this
      have lf0:cK (E g) 107 (.slice fb 0 4 (.lit 4)) (.int .i64 0)=some (.ptr fb 0):=lf 0 (by decide);have lf1:cK (E g) 107 (.slice fb 0 4 (.lit 4)) (.int .i64 1)=some (.ptr fb 1):=lf 1 (by decide);have lf2:cK (E g) 107 (.slice fb 0 4 (.lit 4)) (.int .i64 2)=some (.ptr fb 2):=lf 2 (by decide);have lf3:cK (E g) 107 (.slice fb 0 4 (.lit 4)) (.int .i64 3)=some (.ptr fb 3):=lf 3 (by decide)
      have lB:∀(h':H) (k:Nat),At h' fb 0 [.func 32 [.ptr kb 0] [],.func 33 [.ptr kb 0] [],.func 34 [.ptr kb 0] [],.func 35 [.ptr kb 0] []]→k<4→cx (E g) h' 106 (.ptr fb k)=([.func 32 [.ptr kb 0] [],.func 33 [.ptr kb 0] [],.func 34 [.ptr kb 0] [],.func 35 [.ptr kb 0] []]:List V)[k]?:=fun h' k ha hk=>by
       have:=ha.at (E:=E g) (j:=k) HO rfl hk;simpa using this
      have ll4:lenB (E g) h9 107 (.slice fb 0 4 (.lit 4))=some (.int .i64 4):=by simp only [lenB,HN];rfl
      (try simp only [aE,rL,rD,rB,reduceIte,ll4]);refine ao ?_;have hne:A.length≤20:=by omega
      have hMx:∀o∈os,o.code.length≤16384∧o.data.length≤16384:=fun o ho=>⟨(hok o ho).code,(hok o ho).data⟩;refine WC.loop ?_;refine au ?_;refine aw ?_;refine aG (WC.skip ?_);refine az ?_;refine ao ?_;refine ap ?_;(try simp only [aE,rL,rD,rB,reduceIte,lf0,lB _ 0 bf9 (by decide)]);refine au ?_;refine (Hm (n0:=h.bX) (by omega) (a9.up fun b hb=>hb) fA lA b9 m6 (by omega) (by omega) (by omega) (by omega) (by omega)).mono fun v hD ⟨fD,mD⟩=>?_
      rw [hos] at mD;have xD:=fD.bX;have b1h:=b1h.fix fD ⟨by omega,by omega⟩;have b2h:=b2h.fix fD ⟨by omega,by omega⟩;have FDh:cH h hD:=⟨by omega,fun b hb=>by rw [fD.ca b ⟨by omega,by omega⟩,F9h.ca b hb]⟩
      cases hd:qg 0 os [] with
      | error f =>
       rw [hd] at mD;simp only at mD;subst mD;have hf2:¬f.2=0:=by rw [Cq hd];decide
       rw [hP0,hC,hd];refine az ?_;refine cz cP ?_;intro hx bx nx fx;refine az ?_;refine cq bx cP rfl (aI 2) (cN _) ?_;intro hy by' ny fy
       have by2:Has hy hD.bX [i64 f.1,i64 f.2]:=by'
       have ly:cx (E g) hy 35 (.ptr hD.bX 0)=some (.agg (cG f)):=by'.agg cP rfl (aI 2)
       have Fy:cH hD hy:=⟨by omega,fun b hb=>by rw [fy.ca b (by omega),fx.ca b hb]⟩;refine ax ?_;(try simp only [aE,rL,rD,rB,reduceIte,lw,aH,by2.at mG rfl,i64,iK,kz hf2]);refine aw ?_;refine aG ?_;refine az ?_
       ((repeat refine WC.seq ?_);refine WC.draw (plans:=nY) (by kernel_rfl) ?_;simp only [nY,ak])
       (try simp (maxSteps:=2000000) only [aE,rL,rD,rB,reduceIte,af,Chk,t4,t5,dZ,ly]);refine cq (b1h.fix Fy) ir rfl (aI 7) rfl ?_;intro hc bc nc fc;have lyc:cx (E g) hc 35 (.ptr hD.bX 0)=some (.agg (cG f)):=(by'.fix fc).agg cP rfl (aI 2);(try simp (maxSteps:=2000000) only [aE,rL,rD,rB,reduceIte,af,Chk,t4,t5,dZ,lyc]);refine cq ((b2h.fix Fy).fix fc) cP rfl (aI 2) (cN _) ?_;intro hd bd nd fd;have l1:cx (E g) hd 32 (.ptr h.bX 0)=some (.agg kY):=(bc.fix fd).agg ir rfl (aI 7)
       have l2:cx (E g) hd 35 (.ptr h1.bX 0)=some (.agg (cG f)):=bd.agg cP rfl (aI 2);have lyd:cx (E g) hd 35 (.ptr hD.bX 0)=some (.agg (cG f)):=((by'.fix fc).fix fd).agg cP rfl (aI 2);(try simp (maxSteps:=2000000) only [aE,rL,rD,rB,reduceIte,af,Chk,t4,t5,dZ,lyd]);refine WC.ret ?_;(try simp only [aE,rL,rD,rB,reduceIte,t4,t5,l1,l2]);exact ⟨⟨by omega,fun b hb=>by rw [fd.ca b (by omega),fc.ca b (by omega),Fy.ca b (by omega),FDh.ca b hb]⟩,by trivial⟩
      | ok D =>
       rw [hd] at mD;obtain ⟨e9,mD⟩:=mD;subst e9;have bf9:=bf9.fix fD ⟨by omega,by omega⟩;have b9:=b9.fix fD ⟨by omega,by omega⟩;have m7:=m7.fix fD ⟨by omega,by omega⟩;have a9:=a9.fix fD fun b hb=>⟨by omega,by omega⟩;refine az ?_;refine cz cP ?_;intro hDx bx nx fx;refine az ?_;refine cq bx cP rfl (aI 2) (cN _) ?_;intro hDy by' ny fy
       have by2:Has hDy hD.bX [i64 0,i64 0]:=by'
       have Fy:cH hD hDy:=⟨by omega,fun b hb=>by rw [fy.ca b (by omega),fx.ca b hb]⟩;refine ax ?_;(try simp only [aE,rL,rD,rB,reduceIte,lw,aH,by2.at mG rfl,i64,iK,p7 rfl]);refine aw ?_;refine aF (WC.skip ?_);refine ax ?_;(try simp only [aE,rL,rD,rB,reduceIte,ct]);have bf9:=bf9.fix Fy;have b9:=b9.fix Fy;have m7:=m7.fix Fy;have mD:=mD.fix Fy;have a9:=a9.fix Fy;have b1h:=b1h.fix Fy;have b2h:=b2h.fix Fy
       have FDh:cH h hDy:=⟨by omega,fun b hb=>by rw [Fy.ca b (by omega),FDh.ca b hb]⟩;have hlsy:∀o∈os,o.ce.length≤500:=fun o ho=>(hok o ho).nsym;obtain ⟨dd,dn,dl⟩:=Av (os:=os) (by simp) hlsy hd (fun p hp=>by cases hp) (by simp);have w0:IntKind.i64.wrap (0+1)=1:=by decide
       have w1:IntKind.i64.wrap (1+1)=2:=by decide
       have w2:IntKind.i64.wrap (2+1)=3:=by decide
       have w3:IntKind.i64.wrap (3+1)=4:=by decide
       refine WC.loop ?_;refine ap ?_;(try simp only [aE,rL,rD,rB,reduceIte,w0]);refine aw ?_;refine aG (WC.skip ?_);refine az ?_;refine ao ?_;refine ap ?_;(try simp only [aE,rL,rD,rB,reduceIte,lf1,lB _ 1 bf9 (by decide)]);refine au ?_;refine (Bp (n0:=h.bX) (by omega) a9 fA lA b9 mD m7 (by omega) (by omega) (by omega) (by omega) (by omega) (by omega) (by omega) (by omega) (by omega)).mono fun v hS ⟨fS,mS⟩=>?_
       rw [hos] at mS;have xS:=fS.bX;have b1h:=b1h.fix fS ⟨by omega,by omega⟩;have b2h:=b2h.fix fS ⟨by omega,by omega⟩;have FSh:cH h hS:=⟨by omega,fun b hb=>by rw [fS.ca b ⟨by omega,by omega⟩,FDh.ca b hb]⟩
       cases hr:qf D 0 os [] with
       | error f =>
        rw [hr] at mS;simp only at mS;subst mS;have hf2:¬f.2=0:=by rw [Br hr];decide
        rw [hP0,hC,hd];simp only [hr];refine az ?_;refine cz cP ?_;intro hx bx nx fx;refine az ?_;refine cq bx cP rfl (aI 2) (cN _) ?_;intro hy by' ny fy
        have by2:Has hy hS.bX [i64 f.1,i64 f.2]:=by'
        have ly:cx (E g) hy 35 (.ptr hS.bX 0)=some (.agg (cG f)):=by'.agg cP rfl (aI 2)
        have Fy:cH hS hy:=⟨by omega,fun b hb=>by rw [fy.ca b (by omega),fx.ca b hb]⟩;refine ax ?_;(try simp only [aE,rL,rD,rB,reduceIte,lw,aH,by2.at mG rfl,i64,iK,kz hf2]);refine aw ?_;refine aG ?_;refine az ?_
        ((repeat refine WC.seq ?_);refine WC.draw (plans:=nY) (by kernel_rfl) ?_;simp only [nY,ak])
        (try simp (maxSteps:=2000000) only [aE,rL,rD,rB,reduceIte,af,Chk,t4,t5,dZ,ly]);refine cq (b1h.fix Fy) ir rfl (aI 7) rfl ?_;intro hc bc nc fc;have lyc:cx (E g) hc 35 (.ptr hS.bX 0)=some (.agg (cG f)):=(by'.fix fc).agg cP rfl (aI 2);(try simp (maxSteps:=2000000) only [aE,rL,rD,rB,reduceIte,af,Chk,t4,t5,dZ,lyc]);refine cq ((b2h.fix Fy).fix fc) cP rfl (aI 2) (cN _) ?_;intro hd bd nd fd;have l1:cx (E g) hd 32 (.ptr h.bX 0)=some (.agg kY):=(bc.fix fd).agg ir rfl (aI 7)
        have l2:cx (E g) hd 35 (.ptr h1.bX 0)=some (.agg (cG f)):=bd.agg cP rfl (aI 2);have lyd:cx (E g) hd 35 (.ptr hS.bX 0)=some (.agg (cG f)):=((by'.fix fc).fix fd).agg cP rfl (aI 2);(try simp (maxSteps:=2000000) only [aE,rL,rD,rB,reduceIte,af,Chk,t4,t5,dZ,lyd]);refine WC.ret ?_;(try simp only [aE,rL,rD,rB,reduceIte,t4,t5,l1,l2]);exact ⟨⟨by omega,fun b hb=>by rw [fd.ca b (by omega),fc.ca b (by omega),Fy.ca b (by omega),FSh.ca b hb]⟩,by trivial⟩
       | ok S =>
        rw [hr] at mS;obtain ⟨e9,mS⟩:=mS;subst e9;have bf9:=bf9.fix fS ⟨by omega,by omega⟩;have b9:=b9.fix fS ⟨by omega,by omega⟩;have mD:=mD.fix fS ⟨by omega,by omega⟩;have a9:=a9.fix fS fun b hb=>⟨by omega,by omega⟩;refine az ?_;refine cz cP ?_;intro hSx bx nx fx;refine az ?_;refine cq bx cP rfl (aI 2) (cN _) ?_;intro hSy by' ny fy
        have by2:Has hSy hS.bX [i64 0,i64 0]:=by'
        have Fy:cH hS hSy:=⟨by omega,fun b hb=>by rw [fy.ca b (by omega),fx.ca b hb]⟩;refine ax ?_;(try simp only [aE,rL,rD,rB,reduceIte,lw,aH,by2.at mG rfl,i64,iK,p7 rfl]);refine aw ?_;refine aF (WC.skip ?_);refine ax ?_;(try simp only [aE,rL,rD,rB,reduceIte,ct]);have bf9:=bf9.fix Fy;have b9:=b9.fix Fy;have mD:=mD.fix Fy;have mS:=mS.fix Fy;have a9:=a9.fix Fy;have b1h:=b1h.fix Fy;have b2h:=b2h.fix Fy
        have FSh:cH h hSy:=⟨by omega,fun b hb=>by rw [Fy.ca b (by omega),FSh.ca b hb]⟩;obtain ⟨sd,sn,sl⟩:=z6 (os:=os) (r:=os) (fun o ho=>⟨ho,(hok o ho).nrel⟩) hr (fun p hp=>by cases hp) (by simp)
        have gD:∀p∈D,GoodG os p.2:=fun p hp=>by
         obtain ⟨o,q1,q2,q3,_,_⟩:=dd p hp;have hmo:=bR q1;have so:=(hok o hmo).ce _ q2;have h0:=so.s0;have h2:=so.s2;have h3:=so.o0;exact ⟨(List.getElem?_eq_some_iff.1 q1).1,by omega,h2,h3,(hok o hmo).off q2⟩
        have kD:∀p∈D,p.1.length≤2^20:=fun p hp=>by
         obtain ⟨o,q1,q2,_,_,q5⟩:=dd p hp;have:=((hok o (bR q1)).ce _ q2).name;rw [q5];omega
        have kS:∀p∈S,p.1.length≤2^20:=fun p hp=>by
         obtain ⟨_,o,ho,r,hr',e⟩:=sd p hp;obtain ⟨s,hs,e2⟩:=((hok o ho).ci r hr').known;have:=((hok o ho).ce s hs).name;rw [e,←e2];omega
        simp only [bD,aH] at dl sl;refine WC.loop ?_;refine ap ?_;(try simp only [aE,rL,rD,rB,reduceIte,w1]);refine aw ?_;refine aG (WC.skip ?_);refine az ?_;refine ao ?_;refine ap ?_;(try simp only [aE,rL,rD,rB,reduceIte,lf2,lB _ 2 bf9 (by decide)]);refine au ?_;refine (GW (n0:=h.bX) bas (by omega) a9 w hne (by rw [hos];exact hMx) b9 mD mS (by omega) (by omega) (by omega) (by omega) (by omega) (by omega) (by omega) (by omega) (by omega) (by rw [hos];exact gD) dn (by omega) sn (by omega) kS).mono fun v hL ⟨fL,mL⟩=>?_
        rw [hos] at mL;have xL:=fL.bX;have b1h:=b1h.fix fL ⟨by omega,by omega,by omega,by omega⟩;have b2h:=b2h.fix fL ⟨by omega,by omega,by omega,by omega⟩;have FLh:cH h hL:=⟨by omega,fun b hb=>by rw [fL.ca b ⟨by omega,by omega,by omega,by omega⟩,FSh.ca b hb]⟩
        by_cases hbig:131072<eQ os S
        ·rw [if_pos hbig] at mL;subst mL;have hPe:mY os base=.error (0,18):=by rw [hP0,hC,hd];simp only [hr];rw [if_pos hbig]
         rw [hPe];generalize hff:((0,18):Int×Int)=f;have hf2:¬f.2=0:=by rw [←hff];decide
         refine az ?_;refine cz cP ?_;intro hx bx nx fx;refine az ?_;refine cq bx cP rfl (aI 2) (cN _) ?_;intro hy by' ny fy
         have by2:Has hy hL.bX [i64 f.1,i64 f.2]:=by'
         have ly:cx (E g) hy 35 (.ptr hL.bX 0)=some (.agg (cG f)):=by'.agg cP rfl (aI 2)
         have Fy:cH hL hy:=⟨by omega,fun b hb=>by rw [fy.ca b (by omega),fx.ca b hb]⟩;refine ax ?_;(try simp only [aE,rL,rD,rB,reduceIte,lw,aH,by2.at mG rfl,i64,iK,kz hf2]);refine aw ?_;refine aG ?_;refine az ?_
         ((repeat refine WC.seq ?_);refine WC.draw (plans:=nY) (by kernel_rfl) ?_;simp only [nY,ak])
         (try simp (maxSteps:=2000000) only [aE,rL,rD,rB,reduceIte,af,Chk,t4,t5,dZ,ly]);refine cq (b1h.fix Fy) ir rfl (aI 7) rfl ?_;intro hc bc nc fc;have lyc:cx (E g) hc 35 (.ptr hL.bX 0)=some (.agg (cG f)):=(by'.fix fc).agg cP rfl (aI 2);(try simp (maxSteps:=2000000) only [aE,rL,rD,rB,reduceIte,af,Chk,t4,t5,dZ,lyc]);refine cq ((b2h.fix Fy).fix fc) cP rfl (aI 2) (cN _) ?_;intro hd bd nd fd;have l1:cx (E g) hd 32 (.ptr h.bX 0)=some (.agg kY):=(bc.fix fd).agg ir rfl (aI 7)
         have l2:cx (E g) hd 35 (.ptr h1.bX 0)=some (.agg (cG f)):=bd.agg cP rfl (aI 2);have lyd:cx (E g) hd 35 (.ptr hL.bX 0)=some (.agg (cG f)):=((by'.fix fc).fix fd).agg cP rfl (aI 2);(try simp (maxSteps:=2000000) only [aE,rL,rD,rB,reduceIte,af,Chk,t4,t5,dZ,lyd]);refine WC.ret ?_;(try simp only [aE,rL,rD,rB,reduceIte,t4,t5,l1,l2]);exact ⟨⟨by omega,fun b hb=>by rw [fd.ca b (by omega),fc.ca b (by omega),Fy.ca b (by omega),FLh.ca b hb]⟩,by trivial⟩
        ·rw [if_neg hbig] at mL;obtain ⟨e9,stb,bb,u1,u2,u3,u4,u5,bkL,bsL,bbL,mdL,msL⟩:=mL;subst e9;have bf9:=bf9.fix fL ⟨by omega,by omega,by omega,by omega⟩;have a9:=a9.fix fL fun b hb=>⟨by omega,by omega,by omega,by omega⟩;refine az ?_;refine cz cP ?_;intro hLx bx nx fx;refine az ?_;refine cq bx cP rfl (aI 2) (cN _) ?_;intro hLy by' ny fy
         have by2:Has hLy hL.bX [i64 0,i64 0]:=by'
         have Fy:cH hL hLy:=⟨by omega,fun b hb=>by rw [fy.ca b (by omega),fx.ca b hb]⟩;refine ax ?_;(try simp only [aE,rL,rD,rB,reduceIte,lw,aH,by2.at mG rfl,i64,iK,p7 rfl]);refine aw ?_;refine aF (WC.skip ?_);refine ax ?_;(try simp only [aE,rL,rD,rB,reduceIte,ct]);have bf9:=bf9.fix Fy;have a9:=a9.fix Fy;have b1h:=b1h.fix Fy;have b2h:=b2h.fix Fy;have bkL:=bkL.fix Fy;have bsL:=bsL.fix Fy;have bbL:=bbL.fix Fy
         have mdL:Mq hLy db (mv dV (D1 base os D)):=mdL.fix Fy;have msL:Mq hLy sb (mv i64 (S1 base os S)):=msL.fix Fy;have FLh:cH h hLy:=⟨by omega,fun b hb=>by rw [Fy.ca b (by omega),FLh.ca b hb]⟩;have hb0:=bas.pos;have hb1:=bas.most
         have hE1:dJ os≤fM os:=by
          have h2:dJ os≤ko os:=vF;have h3:=iS (ko os);unfold fM;omega
         have hT:fM os≤131072:=by unfold eQ at hbig;omega
         have hupE:=iS (dJ os);have z:Lsz os base A.length:=⟨hlo,bas,hne,fun sec i h1 h2 hi=>by have:=zP (os:=os) h1 h2 (show i<os.length by omega);omega⟩
         have hA1:∀p∈D1 base os D,0≤p.2.cl∧p.2.cl≤2^40:=fun p hp=>by
          obtain ⟨q,hq,rfl⟩:=bP.1 hp;obtain ⟨g1,g2,g3,g4,g5⟩:=gD q hq;have:=zP (os:=os) (sec:=q.2.sym.sec.toNat) (i:=q.2.obj) (by omega) (by omega) g1;show 0≤base+(stO os q.2.sym.sec.toNat q.2.obj:Nat)+q.2.sym.off∧base+(stO os q.2.sym.sec.toNat q.2.obj:Nat)+q.2.sym.off≤2^40;omega
         have mLk:LkM g hLy kb db sb stb ls A.length (A.map (·.2)) base (D1 base os D) (S1 base os S) (imV base bb (eQ os S) (upN (dJ os):Nat) 0 .nils .nils .nils):=⟨bkL,by rw [hos];exact bsL,mdL,msL,by omega,by omega,by omega,by omega⟩;refine WC.loop ?_;refine ap ?_;(try simp only [aE,rL,rD,rB,reduceIte,w2]);refine aw ?_;refine aG (WC.skip ?_);refine az ?_;refine ao ?_;refine ap ?_;(try simp only [aE,rL,rD,rB,reduceIte,lf3,lB _ 3 bf9 (by decide)])
         refine au ?_;refine (GU (n0:=h.bX) (by omega) a9 fA mLk (by rw [hos];exact z) (by omega) (by omega) (by omega) (by omega) (by omega) hA1).mono fun v hN ⟨fN,mN⟩=>?_;rw [hos] at mN mLk;have xN:=fN.bX;have b1h:=b1h.fix fN ⟨by omega,by omega⟩;have b2h:=b2h.fix fN ⟨by omega,by omega⟩;have FNh:cH h hN:=⟨by omega,fun b hb=>by rw [fN.ca b ⟨by omega,by omega⟩,FLh.ca b hb]⟩
         cases hen:tR base (upN (dJ os):Nat) (D1 base os D) 0 os with
         | error f =>
          rw [hen] at mN;simp only at mN;subst mN;have hf2:¬f.2=0:=by rw [Ck hen];decide
          have hPe:mY os base=.error f:=by rw [hP0,hC,hd];simp only [hr];rw [if_neg hbig];simp only [hen]
          rw [hPe];refine az ?_;refine cz cP ?_;intro hx bx nx fx;refine az ?_;refine cq bx cP rfl (aI 2) (cN _) ?_;intro hy by' ny fy
          have by2:Has hy hN.bX [i64 f.1,i64 f.2]:=by'
          have ly:cx (E g) hy 35 (.ptr hN.bX 0)=some (.agg (cG f)):=by'.agg cP rfl (aI 2)
          have Fy:cH hN hy:=⟨by omega,fun b hb=>by rw [fy.ca b (by omega),fx.ca b hb]⟩;refine ax ?_;(try simp only [aE,rL,rD,rB,reduceIte,lw,aH,by2.at mG rfl,i64,iK,kz hf2]);refine aw ?_;refine aG ?_;refine az ?_
          ((repeat refine WC.seq ?_);refine WC.draw (plans:=nY) (by kernel_rfl) ?_;simp only [nY,ak])
          (try simp (maxSteps:=2000000) only [aE,rL,rD,rB,reduceIte,af,Chk,t4,t5,dZ,ly]);refine cq (b1h.fix Fy) ir rfl (aI 7) rfl ?_;intro hc bc nc fc;have lyc:cx (E g) hc 35 (.ptr hN.bX 0)=some (.agg (cG f)):=(by'.fix fc).agg cP rfl (aI 2);(try simp (maxSteps:=2000000) only [aE,rL,rD,rB,reduceIte,af,Chk,t4,t5,dZ,lyc]);refine cq ((b2h.fix Fy).fix fc) cP rfl (aI 2) (cN _) ?_;intro hd bd nd fd;have l1:cx (E g) hd 32 (.ptr h.bX 0)=some (.agg kY):=(bc.fix fd).agg ir rfl (aI 7)
          have l2:cx (E g) hd 35 (.ptr h1.bX 0)=some (.agg (cG f)):=bd.agg cP rfl (aI 2);have lyd:cx (E g) hd 35 (.ptr hN.bX 0)=some (.agg (cG f)):=((by'.fix fc).fix fd).agg cP rfl (aI 2);(try simp (maxSteps:=2000000) only [aE,rL,rD,rB,reduceIte,af,Chk,t4,t5,dZ,lyd]);refine WC.ret ?_;(try simp only [aE,rL,rD,rB,reduceIte,t4,t5,l1,l2]);exact ⟨⟨by omega,fun b hb=>by rw [fd.ca b (by omega),fc.ca b (by omega),Fy.ca b (by omega),FNh.ca b hb]⟩,by trivial⟩
         | ok e =>
          rw [hen] at mN;obtain ⟨e9,bkN⟩:=mN;subst e9;have a9:=a9.fix fN fun b hb=>⟨by omega,by omega⟩;have mNk:LkM g hN kb db sb stb ls A.length os base (D1 base os D) (S1 base os S) (imV base bb (eQ os S) (upN (dJ os):Nat) e .nils .nils .nils):=⟨bkN,mLk.bs.fix fN ⟨by omega,by omega⟩,mLk.md.fix fN ⟨by omega,by omega⟩,mLk.ms.fix fN ⟨by omega,by omega⟩,by omega,by omega,by omega,by omega⟩;have bbN:=bbL.fix fN ⟨by omega,by omega⟩
          refine az ?_;refine cz cP ?_;intro hNx bx nx fx;refine az ?_;refine cq bx cP rfl (aI 2) (cN _) ?_;intro hNy by' ny fy
          have by2:Has hNy hN.bX [i64 0,i64 0]:=by'
          have Fy:cH hN hNy:=⟨by omega,fun b hb=>by rw [fy.ca b (by omega),fx.ca b hb]⟩;refine ax ?_;(try simp only [aE,rL,rD,rB,reduceIte,lw,aH,by2.at mG rfl,i64,iK,p7 rfl]);refine aw ?_;refine aF (WC.skip ?_);refine ax ?_;(try simp only [aE,rL,rD,rB,reduceIte,ct]);have a9:=a9.fix Fy;have b1h:=b1h.fix Fy;have b2h:=b2h.fix Fy;have mNk:=mNk.kept Fy;have bbN:=bbN.fix Fy;have FNh:cH h hNy:=⟨by omega,fun b hb=>by rw [Fy.ca b (by omega),FNh.ca b hb]⟩
          refine WC.loop ?_;refine ap ?_;(try simp only [aE,rL,rD,rB,reduceIte,w3]);refine aw ?_;refine aF (WC.exit ?_);(try simp only [aE,rL,rD,rB,reduceIte,nb3]);refine au ?_;have hsl:eQ os S≤131072:=by omega
          have hlay:(pg os 0 os (List.replicate (eQ os S) 0)).length=eQ os S:=u7 (by unfold eQ;omega) (by simp) (by simp)
          have hS1v:∀p∈S1 base os S,0≤p.2∧p.2≤2^40:=fun p hp=>by
           have hk:p.1∈S.map (·.1):=by rw [←pW (base:=base) (os:=os)];exact bP.2 ⟨p,hp,rfl⟩
           obtain ⟨j,hj,e1⟩:=S1_at (base:=base) (os:=os) sn hk;have e2:=I4 (by rw [pW];exact sn) hp;rw [e2] at e1;injection e1 with e1;omega
          have mNk':LkM g hNy kb db sb stb ls A.length (A.map (·.2)) base (D1 base os D) (S1 base os S) (imV base bb (eQ os S) (upN (dJ os):Nat) e .nils .nils .nils):=by rw [hos];exact mNk
          refine (Bw (n0:=h.bX) hg (by omega) a9 fA mNk' (by rw [hos];exact z) (by omega) (by omega) (by omega) (by omega) (by omega) (by omega) (by omega) hA1 hS1v bbN hlay (by omega) (fun i hi r hr2=>?_) (fun i hi s hs=>?_)).mono fun v hR ⟨fR,bbR⟩=>?_
          ·have hmo:A[i].2∈os:=by rw [←hos];exact bP.2 ⟨_,aP hi,rfl⟩
           have ro:=(hok _ hmo).ci r hr2;obtain ⟨r1,r2,r3,r4,r5,r6,r7,r8,_⟩:=ro;have hoi:os[i]'(by omega)=A[i].2:=by subst hos;simp
           rw [hos];refine ⟨r1,r2,r3,?_,r7,r8,by omega,by omega⟩;have q1:=mK (os:=os) (i:=i) (by omega);have q2:=mJ (os:=os) (i:=i) (by omega);rw [hoi] at q1 q2;have:r.sec=1∨r.sec=2:=by omega
           unfold eQ
           rcases this with e|e
           ·rw [e] at r4 ⊢;simp only [cU] at r4;show stO os 1 i+r.off.toNat+4≤_;simp at r4;omega
           ·rw [e] at r4 ⊢;simp only [cU] at r4;show stO os 2 i+r.off.toNat+4≤_;simp at r4;omega
          ·have hmo:A[i].2∈os:=by rw [←hos];exact bP.2 ⟨_,aP hi,rfl⟩
           have so:=(hok _ hmo).ce s hs;exact ⟨so.s0,so.s2,so.o0,(hok _ hmo).off hs⟩
          rw [hos] at bbR;have xR:=fR.bX;have a10:=a9.fix fR fun b hb=>⟨by omega,by omega⟩;have b1h:=b1h.fix fR ⟨by omega,by omega⟩;have b2h:=b2h.fix fR ⟨by omega,by omega⟩;have mRk:=mNk'.fix fR ⟨by omega,by omega⟩ ⟨by omega,by omega⟩ ⟨by omega,by omega⟩ ⟨by omega,by omega⟩
          have lR:(sG base os (D1 base os D) (S1 base os S) 0 os (pg os 0 os (List.replicate (eQ os S) 0))).length=eQ os S:=by
           have:=uV (base:=base) (os:=os) (D:=D1 base os D) (S:=S1 base os S) (N:=eQ os S) (r:=os) (i:=0) (bs:=pg os 0 os (List.replicate (eQ os S) 0)) (by simp) hok (by unfold eQ;omega) hlay;exact this
          refine ay ?_
          refine (He (n0:=h.bX) (by omega) a10 (fun p hp=>?_) mRk (by rw [hos];exact z) (by omega) (by omega) (by omega) (by omega) (by omega) (by omega) (by omega) (by omega) (by omega) (by omega) bbR lR (by omega) (by rw [FB];exact dn) (by simp only [D1,bO];omega) (fun p hp=>?_) (by rw [pW];exact sn) (by rw [Hw];omega) (fun p hp=>?_) (fun k hk=>?_)).mono fun v hF ⟨fF,ex,sl',nd,bkF,imF⟩=>?_
          ·have hmo:p.2∈os:=by rw [←hos];exact bP.2 ⟨_,hp,rfl⟩
           have:=(hok _ hmo).nneed;omega
          ·obtain ⟨q,hq,rfl⟩:=bP.1 hp;exact kD q hq
          ·have hk:p.1∈S.map (·.1):=by rw [←pW (base:=base) (os:=os)];exact bP.2 ⟨p,hp,rfl⟩
           obtain ⟨q,hq,e1⟩:=bP.1 hk;rw [←e1];exact kS q hq
          ·have hk:k∈S.map (·.1):=by rw [←pW (base:=base) (os:=os)];exact (mM _).mem_iff.1 hk
           obtain ⟨j,hj,e1⟩:=S1_at (base:=base) (os:=os) sn hk;refine ⟨fM os+8 * j,by rw [e1];simp only [Option.getD_some];omega,by unfold eQ;omega⟩
          rw [hos] at imF;have xF:=fF.bX;have hPk:mY os base=.ok ⟨base,sZ base (fE (D1 base os D) (S1 base os S) (dK ((S1 base os S).map (·.1)))) (sG base os (D1 base os D) (S1 base os S) 0 os (pg os 0 os (List.replicate (eQ os S) 0))),(upN (dJ os):Nat),e,jC (D1 base os D) (dK ((D1 base os D).map (·.1))),fE (D1 base os D) (S1 base os S) (dK ((S1 base os S).map (·.1))),gy os []⟩:=by rw [hP0,hC,hd];simp only [hr];rw [if_neg hbig];simp only [hen]
          rw [hPk];generalize hX:(⟨base,sZ base (fE (D1 base os D) (S1 base os S) (dK ((S1 base os S).map (·.1)))) (sG base os (D1 base os D) (S1 base os S) 0 os (pg os 0 os (List.replicate (eQ os S) 0))),(upN (dJ os):Nat),e,jC (D1 base os D) (dK ((D1 base os D).map (·.1))),fE (D1 base os D) (S1 base os S) (dK ((S1 base os S).map (·.1))),gy os []⟩:ImgD)=X at imF;have b1h:=b1h.fix fF ⟨by omega,by omega,by omega⟩
          have b2h:=b2h.fix fF ⟨by omega,by omega,by omega⟩
          have lI:cx (E g) hF 32 (.ptr kb 5)=some (.agg (imV base bb (eQ os S) (upN (dJ os):Nat) e ex sl' nd)):=by
           have:=bkF.agg (E:=E g) (o:=5) ir rfl (show 5+7≤12 by decide);exact this
          refine ax ?_;(try simp only [aE,rL,rD,rB,reduceIte,dF,aH,lI,iR,t4,t5])
          have oI:(imV base bb (eQ os S) (upN (dJ os):Nat) e ex sl' nd).all V.one=true:=by
           simp only [imV,List.all_cons,List.all_nil,(Sl.one imF.cg).2,(Sl.one imF.cb).2,(Sl.one imF.cf).2,Bool.and_true];rfl
          refine cq b1h ir rfl (aI 7) oI ?_;intro hG bG nG fG;have bG:Has hG h.bX (imV base bb (eQ os S) (upN (dJ os):Nat) e ex sl' nd):=bG;(try simp only [aE,rL,rD,rB,reduceIte,dF,aH,lI,iR,t4,t5]);refine cq (b2h.fix fG) cP rfl (aI 2) (cN _) ?_;intro hZ bZ nZ fZ;have l1:cx (E g) hZ 32 (.ptr h.bX 0)=some (.agg (imV base bb (eQ os S) (upN (dJ os):Nat) e ex sl' nd)):=(bG.fix fZ).agg ir rfl (aI 7);have l2:cx (E g) hZ 35 (.ptr h1.bX 0)=some (.agg (cG (0,0))):=bZ.agg cP rfl (aI 2)
          refine az ?_;refine WC.ret ?_;(try simp only [aE,rL,rD,rB,reduceIte,t4,t5,l1,l2])
          refine ⟨⟨by omega,fun b hb=>by rw [fZ.ca b (by omega),fG.ca b (by omega),fF.ca b ⟨by omega,by omega,by omega⟩,fR.ca b ⟨by omega,by omega⟩,FNh.ca b hb]⟩,⟨.slice bb 0 (eQ os S) (.lit (eQ os S)),ex,sl',nd⟩,?_,?_⟩
          ·rw [←hX];rfl
          ·exact (imF.fix (K':=fun b=>b≠h.bX∧b≠h1.bX) ⟨by omega,fun b hb=>by rw [fZ.ca b hb.2,fG.ca b hb.1]⟩ fun b hb=>⟨by omega,by omega⟩).up fun b hb=>⟨by omega,by omega⟩
    all_goals (try simp only [aE,rL,rD,rB,reduceIte])
    all_goals (first|done|rfl|trivial|simp)
end Go.Proofs.OP
