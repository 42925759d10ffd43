/- Walks: the reference's faults. -/
import Derived.Test.YtloblhhnlaaajaaDoorY43
set_option maxHeartbeats 16000000
set_option maxRecDepth 100000
set_option linter.unusedVariables false
set_option linter.unusedSimpArgs false
set_option linter.defProp false
namespace Go.Proofs.OP
open Go Go.Ev
open Go.Proofs
open Nat renaming reduceLT → rL, reduceEqDiff → rD, reduceBEq → rB
variable {g : T (List V)}
def twP (s:SymD) (p:ObjD):Bool:=fg s.name p.ce&&(s.cn&&(decide (0<s.sec)&&(!s.cm&&((eD s.name p.ce).cn&&(decide (0<(eD s.name p.ce).sec) && !(eD s.name p.ce).cm)))))
def twS (i:Nat) (ps:List ObjD):List SymD→Except (Int×Int) Unit
 | []=>.ok ()
 | s::r=>if ps.any (twP s)=true then .error ((i:Int),38) else twS i ps r
def twL (os:List ObjD):Nat→List ObjD→Except (Int×Int) Unit
 | _,[]=>.ok ()
 | i,o::r=>match twS i (os.take i) o.ce with
  | .error f=>.error f
  | .ok _=>twL os (i+1) r
def rsR (base:Int) (os:List ObjD) (i:Nat) (o:ObjD):List RelD→Except (Int×Int) Unit
 | []=>.ok ()
 | r::rest=>if r.kind≠2∧(nH base os i o r.sym).isSome=false∧(eD r.sym o.ce).cm=false then .error ((i:Int),22) else rsR base os i o rest
def rsL (base:Int) (os:List ObjD):Nat→List ObjD→Except (Int×Int) Unit
 | _,[]=>.ok ()
 | i,o::r=>match rsR base os i o o.ci with
  | .error f=>.error f
  | .ok _=>rsL base os (i+1) r
def oW (os:List ObjD):Nat:=fM os+8 * (gL os []).length
def rfP (base:Int) (os:List ObjD):Except (Int×Int) Unit:=match eB 0 os with
 | .error f=>.error f
 | .ok _=>match twL os 0 os with
  | .error f=>.error f
  | .ok _=>match rsL base os 0 os with
   | .error f=>.error f
   | .ok _=>if 131072<oW os then .error (0,18) else .ok ()
theorem nb10:Nat.beq 10 10=true:=rfl
theorem mE {b:Int}:dY (E g) 35 [(1,.int .i64 b)]=some (.agg (cG (0,b))):=by
 simp only [dY,cP,cW,nth,cL mG,List.all_cons,List.all_nil,ty3,mG,bF,Bool.and_true,aV,cond_false]
 rfl
theorem C5 {n0 kb:Nat} {h:H} {ls:V} {L:List (Oc×ObjD)} {base:Int} (hn0:n0≤h.bX) (a:Obs g h (·<n0) ls L) (hb:Bas base) (lL:L.length≤20) (fits:∀p∈L,Fits p.2)
  (bk:Has h kb (rkV ls base .nils 0 0 .nils 0)) (hkb:kb<h.bX) (k0:n0≤kb) :
  WF (E g) 45 [.ptr kb 0] h fun v h'=>Fix (fun b=>b<h.bX∧b≠kb) h h'∧match rfP base (L.map (·.2)) with
   | .error f=>v=.agg (cG f)
   | .ok _=>v=.agg (cG (0,0))∧Lg base (L.map (·.2))∧∃stb nm,n0≤stb ∧
    Rk g h' h'.bX kb stb ls nm L base (upN (dJ (L.map (·.2))):Nat) (base+(fM (L.map (·.2)):Nat)) (oW (L.map (·.2)):Nat) (gL (L.map (·.2)) []):=by
 have hlo:(L.map (·.2)).length=L.length:=by simp
 generalize hos:L.map (·.2)=os at *;have hoi:∀i (h:i<L.length),os[i]'(by omega)=L[i].2:=fun i h=>by subst hos;simp
 refine WF.enter fn45 rfl ?_;refine au ?_;refine cz cP ?_;intro h1 b1 n1 f1;have b1:Has h1 h.bX (cG (0,0)):=b1;have bk1:=bk.fix f1 hkb;have a1:=a.fix f1;refine ax ?_;(try simp only [aE,rL,rD,rB,reduceIte,lU,aH,bk1.at gM rfl,Sl.lenB a1.sl gM rfl]);refine ao ?_
 refine WC.while (fun m fr hh=>∃ts i,fr=⟨ts,166,[],45,none⟩∧cH h1 hh∧m=L.length - i∧i≤L.length∧ts.get 0=some (.ptr kb 0)∧ts.get 2=some (.ptr h.bX 0)∧ts.get 25=some ls∧ts.get 26=some (.int .i64 L.length)∧ts.get 27=some (.int .i64 i)∧eB 0 os=eB i (os.drop i)) ?_ ⟨_,0,rfl,Fix.refl _ _,rfl,by omega,?_,?_,?_,?_,?_,by simp⟩
 ·rintro m fr hh ⟨ts,i,rfl,ff,rfl,hi,t0,t2,t25,t26,t27,hC⟩
  have xh:=ff.bX;have ah:=a1.fix ff;have bh:=b1.fix ff;refine ap ?_;(try simp only [aE,rL,rD,rB,reduceIte,t26,t27]);refine aw ?_
  by_cases hli:i<L.length
  ·refine aG (WC.skip ?_);refine az ?_;obtain ⟨p,p1,p2⟩:=ah.sl.at (fun _=>rfl) gM rfl eP rfl (by decide) rfl hli;have p2:=p2 hh fun _ _ _ _ _=>rfl;have obi:=ah.ob _ (aP hli);rw [da (by omega),hoi i hli] at hC;simp only [eB] at hC;refine ao ?_;refine ap ?_;(try simp only [aE,rL,rD,rB,reduceIte,t25,t27,p1,p2]);refine cz eP ?_;intro h5 b5 n5 f5;refine az ?_;refine cq b5 eP rfl (aI 7) (Oc.one obi) ?_;intro h6 b6 n6 f6
   have b6:Has h6 hh.bX (L[i].1.cells L[i].2):=b6;have F6:cH hh h6:=⟨by omega,fun b hb=>by rw [f6.ca b (by omega),f5.ca b hb]⟩;have l6:cx (E g) h6 70 (.ptr hh.bX 0)=some (.agg (L[i].1.cells L[i].2)):=b6.agg eP rfl (aI 7);have ob6:=(obi.fix F6).up (K':=(·<h6.bX)) fun b hb=>by omega
   refine ax ?_;(try simp only [aE,rL,rD,rB,reduceIte,l6]);refine (Gz ob6 (fits _ (aP hli))).mono fun v h7 ⟨e7,f7⟩=>?_;subst e7;have x7:=f7.bX;have b7:=(bh.fix F6).fix f7;(try simp only [aE,rL,rD,rB,reduceIte,i64]);refine au ?_;refine aw ?_
   by_cases hc:ig L[i].2=0
   ·rw [if_pos hc] at hC;refine WC.cond (b:=false) (by (try simp only [aE,rL,rD,rB,reduceIte,p7 hc]);(try simp);(try omega)) (WC.skip ?_);refine ax ?_;(try simp only [aE,rL,rD,rB,reduceIte,t27,ct])
    refine ⟨_,?_,_,i+1,rfl,⟨by omega,fun b hb=>by rw [f7.ca b (by omega),F6.ca b (by omega),ff.ca b hb]⟩,rfl,by omega,?_⟩
    ·omega
    (try simp only [aE,rL,rD,rB,reduceIte,t0,t2,t25,t26]);refine ⟨aD,aD,aD,aD,?_,hC⟩;rw [cy (by omega) (by omega)];rfl
   ·rw [if_neg hc] at hC;refine WC.cond (b:=true) (by (try simp only [aE,rL,rD,rB,reduceIte,kz hc]);(try simp);(try omega)) ?_;refine ap ?_;(try simp only [aE,rL,rD,rB,reduceIte,t2,vK]);refine cq b7 cP rfl (aI 2) rfl ?_;intro h8 b8 n8 f8;have l8:cx (E g) h8 35 (.ptr h.bX 0)=some (.agg (cG ((i:Int),ig L[i].2))):=b8.agg cP rfl (aI 2);refine az ?_;refine WC.ret ?_;(try simp only [aE,rL,rD,rB,reduceIte,t2,l8])
    refine ⟨⟨by omega,fun b hb=>by rw [f8.ca b (by omega),f7.ca b (by omega),F6.ca b (by omega),ff.ca b (by omega),f1.ca b hb.1]⟩,?_⟩;simp only [rfP,hC]
  ·refine aF (WC.exit ?_);have:i=L.length:=by omega
   subst this;rw [bK (by omega)] at hC;simp only [eB] at hC;have lg:Lg base os:=⟨hb,by omega,ou hC⟩;have bkh:=bk1.fix ff;have F0:cH h hh:=f1.trans (ff.sub)
   have ph:∀hx,cH hh hx→Obs g hx (·<n0) ls L∧Has hx kb (rkV ls base .nils 0 0 .nils 0)∧Has hx h.bX (cG (0,0)):=fun hx fx =>
    ⟨ah.fix fx,bkh.fix fx,bh.fix fx⟩
   have hRf:rfP base os=match twL os 0 os with
    | .error f=>.error f
    | .ok _=>match rsL base os 0 os with
     | .error f=>.error f
     | .ok _=>if 131072<oW os then .error (0,18) else .ok ():=by unfold rfP;rw [hC]
   refine ax ?_;(try simp only [aE,rL,rD,rB,reduceIte,t0,lU,aH,bkh.at gM rfl,Sl.lenB ah.sl gM rfl]);refine ao ?_
   refine WC.while (fun m fr hi=>∃ts i,fr=⟨ts,166,[],45,none⟩∧cH hh hi∧m=L.length - i∧i≤L.length∧ts.get 0=some (.ptr kb 0)∧ts.get 2=some (.ptr h.bX 0)∧ts.get 43=some ls∧ts.get 44=some (.int .i64 L.length)∧ts.get 45=some (.int .i64 i)∧twL os 0 os=twL os i (os.drop i)) ?_ ⟨_,0,rfl,Fix.refl _ _,rfl,by omega,?_,?_,?_,?_,?_,by simp⟩
   ·rintro m fr hi ⟨ts,i,rfl,fi,rfl,hil,t0,t2,t43,t44,t45,hT⟩
    have xi:=fi.bX;obtain ⟨ai,bki,bri⟩:=ph hi fi;refine ap ?_;(try simp only [aE,rL,rD,rB,reduceIte,t44,t45]);refine aw ?_
    by_cases hli:i<L.length
    ·refine aG (WC.skip ?_);refine az ?_;obtain ⟨p,p1,p2⟩:=ai.sl.at (fun _=>rfl) gM rfl eP rfl (by decide) rfl hli;have p2:=p2 hi fun _ _ _ _ _=>rfl;have obi:=ai.ob _ (aP hli);have gdi:=lg.good _ (show L[i].2∈os by rw [←hoi i hli];exact aP _);have nsi:=gdi.nsym;rw [da (by omega),hoi i hli] at hT;simp only [twL] at hT;refine ao ?_;refine ap ?_;(try simp only [aE,rL,rD,rB,reduceIte,t43,t45,p1,p2]);refine cz eP ?_
     intro h5 b5 n5 f5;refine az ?_;refine cq b5 eP rfl (aI 7) (Oc.one obi) ?_;intro h6 b6 n6 f6;have b6:Has h6 hi.bX [.str L[i].2.name,L[i].1.code,L[i].1.data,L[i].1.ce,L[i].1.ci,L[i].1.cf,.str L[i].2.entry]:=b6;have F6:cH hi h6:=⟨by omega,fun b hb=>by rw [f6.ca b (by omega),f5.ca b hb]⟩;have G6:cH hh h6:=fi.trans (F6.sub);have ob6:=obi.fix F6;refine ax ?_;(try simp only [aE,rL,rD,rB,reduceIte,iw,aH,b6.at gu rfl,Sl.lenB ob6.ce gu rfl])
     refine ao ?_
     refine WC.while (fun m fr hj=>∃ts j,fr=⟨ts,166,[],45,none⟩∧cH h6 hj∧m=L[i].2.ce.length - j∧j≤L[i].2.ce.length∧ts.get 0=some (.ptr kb 0)∧ts.get 2=some (.ptr h.bX 0)∧ts.get 6=some (.int .i64 i)∧ts.get 43=some ls∧ts.get 44=some (.int .i64 L.length)∧ts.get 45=some (.int .i64 i)∧ts.get 51=some L[i].1.ce∧ts.get 52=some (.int .i64 L[i].2.ce.length)∧ts.get 53=some (.int .i64 j)∧twS i (os.take i) L[i].2.ce=twS i (os.take i) (L[i].2.ce.drop j)) ?_ ⟨_,0,rfl,Fix.refl _ _,rfl,by omega,?_,?_,?_,?_,?_,?_,?_,?_,?_,by simp⟩
     ·rintro m fr hj ⟨ts,j,rfl,fj,rfl,hjl,t0,t2,t6,t43,t44,t45,t51,t52,t53,hS⟩
      have xj:=fj.bX;have Gj:cH hh hj:=G6.trans (fj.sub);obtain ⟨aj,bkj,brj⟩:=ph hj Gj;have obj:=ob6.fix fj;refine ap ?_;(try simp only [aE,rL,rD,rB,reduceIte,t52,t53]);refine aw ?_
      by_cases hlj:j<L[i].2.ce.length
      ·refine aG (WC.skip ?_);refine az ?_;obtain ⟨p,p1,p2⟩:=obj.ce.at jU gu rfl eg rfl (by decide) rfl hlj;have p2:=p2 hj fun _ _ _ _ _=>rfl;rw [da hlj] at hS;simp only [twS] at hS;generalize hs:L[i].2.ce[j]=s at p2 hS;refine ao ?_;refine ap ?_;(try simp only [aE,rL,rD,rB,reduceIte,t51,t53,p1,p2]);refine cz eg ?_;intro h7 b7 n7 f7;refine az ?_;refine cq b7 eg rfl (aI 5) (jD s) ?_;intro h8 b8 n8 f8
       have b8:Has h8 hj.bX [.str s.name,i64 s.sec,i64 s.off,.bool s.cn,.bool s.cm]:=b8;have F8:cH hj h8:=⟨by omega,fun b hb=>by rw [f8.ca b (by omega),f7.ca b hb]⟩;have G8:cH hh h8:=Gj.trans (F8.sub);obtain ⟨a8,bk8,br8⟩:=ph h8 G8;obtain ⟨sv,sv1,sv2,sv3⟩:=Rcs.upto (f:=fun p:Oc×ObjD=>p.1.cells p.2) a8.sl (fun _=>rfl) gM rfl eP rfl (n:=i) (by omega);have sv3:=sv3 _ a8.ins;have hlt:(L.take i).length=i:=by simp;omega
       refine ax ?_;(try simp only [aE,rL,rD,rB,reduceIte,t0,t6,lU,aH,bk8.at gM rfl,sv1,Sl.lenB sv2 gM rfl]);refine ao ?_
       refine WC.while (fun m fr hq=>∃ts q,fr=⟨ts,166,[],45,none⟩∧cH h8 hq∧m=i - q∧q≤i∧ts.get 0=some (.ptr kb 0)∧ts.get 2=some (.ptr h.bX 0)∧ts.get 6=some (.int .i64 i)∧ts.get 9=some (.ptr hj.bX 0)∧ts.get 43=some ls∧ts.get 44=some (.int .i64 L.length)∧ts.get 45=some (.int .i64 i)∧ts.get 51=some L[i].1.ce∧ts.get 52=some (.int .i64 L[i].2.ce.length)∧ts.get 53=some (.int .i64 j)∧ts.get 62=some sv∧ts.get 63=some (.int .i64 i)∧ts.get 64=some (.int .i64 q)∧∀x∈(os.take i).take q,twP s x=false) ?_ ⟨_,0,rfl,Fix.refl _ _,rfl,by omega,?_,?_,?_,?_,?_,?_,?_,?_,?_,?_,?_,?_,?_,by simp⟩
       ·rintro m fr hq ⟨ts,q,rfl,fq,rfl,hql,t0,t2,t6,t9,t43,t44,t45,t51,t52,t53,t62,t63,t64,hW⟩
        have xq:=fq.bX;have Gq:cH hh hq:=G8.trans (fq.sub);obtain ⟨aq,bkq,brq⟩:=ph hq Gq;have bq:=b8.fix fq;refine ap ?_;(try simp only [aE,rL,rD,rB,reduceIte,t63,t64]);refine aw ?_
        by_cases hlq:q<i
        ·refine aG (WC.skip ?_);refine az ?_;obtain ⟨p,p1,p2⟩:=sv2.at (fun _=>rfl) gM rfl eP rfl (by decide) rfl (show q<(L.take i).length by omega);have hqL:(L.take i)[q]=L[q]:=by simp
         rw [hqL] at p2;have p2:=p2 hq fun b o n c e=>fq.ca b (by have:=sv3 _ _ _ _ e;omega);have obq:=aq.ob _ (aP (show q<L.length by omega));have gdq:=lg.good _ (show L[q].2∈os by rw [←hoi q (by omega)];exact aP _);have hoq:(os.take i)[q]'(by simp;omega)=L[q].2:=by rw [List.getElem_take,hoi q (by omega)]
         refine ao ?_;refine ap ?_;(try simp only [aE,rL,rD,rB,reduceIte,t62,t64,p1,p2]);refine cz eP ?_;intro k5 c5 m5 e5;refine az ?_;refine cq c5 eP rfl (aI 7) (Oc.one obq) ?_;intro k6 c6 m6 e6;have c6:Has k6 hq.bX (L[q].1.cells L[q].2):=c6;have E6:cH hq k6:=⟨by omega,fun b hb=>by rw [e6.ca b (by omega),e5.ca b hb]⟩;have l6:cx (E g) k6 70 (.ptr hq.bX 0)=some (.agg (L[q].1.cells L[q].2)):=c6.agg eP rfl (aI 7)
         have oc6:=(obq.fix E6).up (K':=(·<k6.bX)) fun b hb=>by omega
         have d6:=bq.fix E6;refine ax ?_;(try simp only [aE,rL,rD,rB,reduceIte,t9,l6,ry,aH,d6.at ty9 rfl]);refine (kC oc6 (by have:=gdq.nsym;omega)).mono fun v k7 ⟨q7,e7⟩=>?_;subst q7;have y7:=e7.bX;refine az ?_;refine cz eg ?_;intro k8 c8 m8 e8;refine az ?_;have hP:twP s L[q].2=(fg s.name L[q].2.ce&&(s.cn&&(decide (0<s.sec)&&(!s.cm&&((eD s.name L[q].2.ce).cn&&(decide (0<(eD s.name L[q].2.ce).sec) && !(eD s.name L[q].2.ce).cm)))))):=rfl
         generalize hu:eD s.name L[q].2.ce=u at *;refine cq c8 eg rfl (aI 5) (jD u) ?_;intro k9 c9 m9 e9;have c9:Has k9 k7.bX [.str u.name,i64 u.sec,i64 u.off,.bool u.cn,.bool u.cm]:=c9;have E9:cH hq k9:=⟨by omega,fun b hb=>by rw [e9.ca b (by omega),e8.ca b (by omega),e7.ca b (by omega),E6.ca b hb]⟩;have d9:=bq.fix E9;have r9:=brq.fix E9;refine ax ?_
         rcases (bg (fg s.name L[q].2.ce)).symm with c1|c1
         ·(try simp only [aE,rL,rD,rB,reduceIte,c1,t9,eC,dz,fH,aH,d9.at ty4 rfl,d9.at ty3 rfl,c9.at ty4 rfl,c9.at ty3 rfl,i64,gX,cY,aV,bE]);refine aw ?_;refine WC.cond (b:=false) (by (try simp only [aE,rL,rD,rB,reduceIte,c1]);(try simp);(try omega)) (WC.skip ?_);refine ax ?_;(try simp only [aE,rL,rD,rB,reduceIte,t64,ct])
          refine ⟨_,?_,_,q+1,rfl,fq.trans (E9.sub),rfl,by omega,?_⟩
          ·omega
          (try simp only [aE,rL,rD,rB,reduceIte,t0,t2,t6,t9,t43,t44,t45,t51,t52,t53,t62,t63])
          refine ⟨aD,aD,aD,aD,aD,aD,aD,aD,aD,aD,aD,aD,?_,fun x hx=>?_⟩
          ·rw [cy (by omega) (by omega)];rfl
          ·rw [bW (by simp;omega),bN,aN] at hx
           rcases hx with hx|hx
           ·exact hW x hx
           ·rw [hx,hoq,hP];simp [c1]
         rcases (bg (s.cn)).symm with c2|c2
         ·(try simp only [aE,rL,rD,rB,reduceIte,c1,c2,t9,eC,dz,fH,aH,d9.at ty4 rfl,d9.at ty3 rfl,c9.at ty4 rfl,c9.at ty3 rfl,i64,gX,cY,aV,bE]);refine aw ?_;refine WC.cond (b:=false) (by (try simp only [aE,rL,rD,rB,reduceIte,c1,c2]);(try simp);(try omega)) (WC.skip ?_);refine ax ?_;(try simp only [aE,rL,rD,rB,reduceIte,t64,ct])
          refine ⟨_,?_,_,q+1,rfl,fq.trans (E9.sub),rfl,by omega,?_⟩
          ·omega
          (try simp only [aE,rL,rD,rB,reduceIte,t0,t2,t6,t9,t43,t44,t45,t51,t52,t53,t62,t63])
          refine ⟨aD,aD,aD,aD,aD,aD,aD,aD,aD,aD,aD,aD,?_,fun x hx=>?_⟩
          ·rw [cy (by omega) (by omega)];rfl
          ·rw [bW (by simp;omega),bN,aN] at hx
           rcases hx with hx|hx
           ·exact hW x hx
           ·rw [hx,hoq,hP];simp [c1,c2]
         rcases (bz (0<s.sec)).symm with c3|c3
         ·(try simp only [aE,rL,rD,rB,reduceIte,c1,c2,aK c3,t9,eC,dz,fH,aH,d9.at ty4 rfl,d9.at ty3 rfl,c9.at ty4 rfl,c9.at ty3 rfl,i64,gX,cY,aV,bE]);refine aw ?_;refine WC.cond (b:=false) (by (try simp only [aE,rL,rD,rB,reduceIte,c1,c2,aK c3]);(try simp);(try omega)) (WC.skip ?_);refine ax ?_;(try simp only [aE,rL,rD,rB,reduceIte,t64,ct])
          refine ⟨_,?_,_,q+1,rfl,fq.trans (E9.sub),rfl,by omega,?_⟩
          ·omega
          (try simp only [aE,rL,rD,rB,reduceIte,t0,t2,t6,t9,t43,t44,t45,t51,t52,t53,t62,t63])
          refine ⟨aD,aD,aD,aD,aD,aD,aD,aD,aD,aD,aD,aD,?_,fun x hx=>?_⟩
          ·rw [cy (by omega) (by omega)];rfl
          ·rw [bW (by simp;omega),bN,aN] at hx
           rcases hx with hx|hx
           ·exact hW x hx
           ·rw [hx,hoq,hP];simp [c1,c2,c3]
         rcases bg (s.cm) with c4|c4
         ·(try simp only [aE,rL,rD,rB,reduceIte,c1,c2,aJ c3,c4,t9,eC,dz,fH,aH,d9.at ty4 rfl,d9.at ty3 rfl,c9.at ty4 rfl,c9.at ty3 rfl,i64,gX,cY,aV,bE]);refine aw ?_;refine WC.cond (b:=false) (by (try simp only [aE,rL,rD,rB,reduceIte,c1,c2,aJ c3,c4]);(try simp);(try omega)) (WC.skip ?_);refine ax ?_;(try simp only [aE,rL,rD,rB,reduceIte,t64,ct])
          refine ⟨_,?_,_,q+1,rfl,fq.trans (E9.sub),rfl,by omega,?_⟩
          ·omega
          (try simp only [aE,rL,rD,rB,reduceIte,t0,t2,t6,t9,t43,t44,t45,t51,t52,t53,t62,t63])
          refine ⟨aD,aD,aD,aD,aD,aD,aD,aD,aD,aD,aD,aD,?_,fun x hx=>?_⟩
          ·rw [cy (by omega) (by omega)];rfl
          ·rw [bW (by simp;omega),bN,aN] at hx
           rcases hx with hx|hx
           ·exact hW x hx
           ·rw [hx,hoq,hP];simp [c1,c2,c3,c4]
         rcases (bg (u.cn)).symm with c5|c5
         ·(try simp only [aE,rL,rD,rB,reduceIte,c1,c2,aJ c3,c4,c5,t9,eC,dz,fH,aH,d9.at ty4 rfl,d9.at ty3 rfl,c9.at ty4 rfl,c9.at ty3 rfl,i64,gX,cY,aV,bE]);refine aw ?_;refine WC.cond (b:=false) (by (try simp only [aE,rL,rD,rB,reduceIte,c1,c2,aJ c3,c4,c5]);(try simp);(try omega)) (WC.skip ?_);refine ax ?_;(try simp only [aE,rL,rD,rB,reduceIte,t64,ct])
          refine ⟨_,?_,_,q+1,rfl,fq.trans (E9.sub),rfl,by omega,?_⟩
          ·omega
          (try simp only [aE,rL,rD,rB,reduceIte,t0,t2,t6,t9,t43,t44,t45,t51,t52,t53,t62,t63])
          refine ⟨aD,aD,aD,aD,aD,aD,aD,aD,aD,aD,aD,aD,?_,fun x hx=>?_⟩
          ·rw [cy (by omega) (by omega)];rfl
          ·rw [bW (by simp;omega),bN,aN] at hx
           rcases hx with hx|hx
           ·exact hW x hx
           ·rw [hx,hoq,hP];simp [c1,c2,c3,c4,c5]
         rcases (bz (0<u.sec)).symm with c6|c6
         ·(try simp only [aE,rL,rD,rB,reduceIte,c1,c2,aJ c3,c4,c5,aK c6,t9,eC,dz,fH,aH,d9.at ty4 rfl,d9.at ty3 rfl,c9.at ty4 rfl,c9.at ty3 rfl,i64,gX,cY,aV,bE]);refine aw ?_;refine WC.cond (b:=false) (by (try simp only [aE,rL,rD,rB,reduceIte,c1,c2,aJ c3,c4,c5,aK c6]);(try simp);(try omega)) (WC.skip ?_);refine ax ?_;(try simp only [aE,rL,rD,rB,reduceIte,t64,ct])
          refine ⟨_,?_,_,q+1,rfl,fq.trans (E9.sub),rfl,by omega,?_⟩
          ·omega
          (try simp only [aE,rL,rD,rB,reduceIte,t0,t2,t6,t9,t43,t44,t45,t51,t52,t53,t62,t63])
          refine ⟨aD,aD,aD,aD,aD,aD,aD,aD,aD,aD,aD,aD,?_,fun x hx=>?_⟩
          ·rw [cy (by omega) (by omega)];rfl
          ·rw [bW (by simp;omega),bN,aN] at hx
           rcases hx with hx|hx
           ·exact hW x hx
           ·rw [hx,hoq,hP];simp [c1,c2,c3,c4,c5,c6]
         rcases bg (u.cm) with c7|c7
         ·(try simp only [aE,rL,rD,rB,reduceIte,c1,c2,aJ c3,c4,c5,aJ c6,c7,t9,eC,dz,fH,aH,d9.at ty4 rfl,d9.at ty3 rfl,c9.at ty4 rfl,c9.at ty3 rfl,i64,gX,cY,aV,bE]);refine aw ?_;refine WC.cond (b:=false) (by (try simp only [aE,rL,rD,rB,reduceIte,c1,c2,aJ c3,c4,c5,aJ c6,c7]);(try simp);(try omega)) (WC.skip ?_);refine ax ?_;(try simp only [aE,rL,rD,rB,reduceIte,t64,ct])
          refine ⟨_,?_,_,q+1,rfl,fq.trans (E9.sub),rfl,by omega,?_⟩
          ·omega
          (try simp only [aE,rL,rD,rB,reduceIte,t0,t2,t6,t9,t43,t44,t45,t51,t52,t53,t62,t63])
          refine ⟨aD,aD,aD,aD,aD,aD,aD,aD,aD,aD,aD,aD,?_,fun x hx=>?_⟩
          ·rw [cy (by omega) (by omega)];rfl
          ·rw [bW (by simp;omega),bN,aN] at hx
           rcases hx with hx|hx
           ·exact hW x hx
           ·rw [hx,hoq,hP];simp [c1,c2,c3,c4,c5,c6,c7]
         (try simp only [aE,rL,rD,rB,reduceIte,c1,c2,aJ c3,c4,c5,aJ c6,c7,t9,eC,dz,fH,aH,d9.at ty4 rfl,d9.at ty3 rfl,c9.at ty4 rfl,c9.at ty3 rfl,i64,gX,cY,aV,bE]);refine aw ?_;refine WC.cond (b:=true) (by (try simp only [aE,rL,rD,rB,reduceIte,c1,c2,aJ c3,c4,c5,aJ c6,c7]);(try simp);(try omega)) ?_
         have hany:(os.take i).any (twP s)=true:=by
          rw [List.any_eq_true];exact ⟨L[q].2,by rw [←hoq];exact aP _,by rw [hP];simp [c1,c2,c3,c4,c5,c6,c7]⟩
         rw [if_pos hany] at hS;rw [hS] at hT;refine ap ?_;(try simp only [aE,rL,rD,rB,reduceIte,t2,t6,vK]);refine cq r9 cP rfl (aI 2) rfl ?_;intro k10 c10 m10 e10;have l10:cx (E g) k10 35 (.ptr h.bX 0)=some (.agg (cG ((i:Int),38))):=c10.agg cP rfl (aI 2);refine az ?_;refine WC.ret ?_;(try simp only [aE,rL,rD,rB,reduceIte,t2,l10]);refine ⟨⟨by omega,fun b hb=>by rw [e10.ca b (by omega),E9.ca b (by omega),Gq.ca b (by omega),F0.ca b hb.1]⟩,?_⟩
         simp only [hRf,hT]
        ·refine aF (WC.exit ?_);have:q=i:=by omega
         subst this
         have hany:(os.take q).any (twP s)=false:=by
          rw [List.any_eq_false];intro x hx;rw [hW x (by rw [bT (by rw [List.length_take];omega)];exact hx)];decide
         rw [if_neg (by rw [hany];decide)] at hS;(try simp only [aE,rL,rD,rB,reduceIte,nb6]);refine ap ?_;(try simp only [aE,rL,rD,rB,reduceIte,t53,ct])
         refine ⟨_,?_,_,j+1,rfl,(fj.trans (F8.sub)).trans (fq.sub),rfl,by omega,?_⟩
         ·omega
         (try simp only [aE,rL,rD,rB,reduceIte,t0,t2,t6,t43,t44,t45,t51,t52]);refine ⟨aD,aD,aD,aD,aD,aD,aD,aD,?_,hS⟩;rw [cy (by omega) (by omega)];rfl
       all_goals (try simp only [aE,rL,rD,rB,reduceIte,t0,t2,t6,t43,t44,t45,t51,t52,t53])
       all_goals (first|done|rfl|trivial|simp [hlt])
      ·refine aF (WC.exit ?_);have:j=L[i].2.ce.length:=by omega
       subst this;rw [bU] at hS;simp only [twS] at hS;rw [hS] at hT;(try simp only [aE,rL,rD,rB,reduceIte,nb4]);refine ap ?_;(try simp only [aE,rL,rD,rB,reduceIte,t45,ct])
       refine ⟨_,?_,_,i+1,rfl,fi.trans ((F6.trans (fj.sub)).sub),rfl,by omega,?_⟩
       ·omega
       (try simp only [aE,rL,rD,rB,reduceIte,t0,t2,t43,t44]);refine ⟨aD,aD,aD,aD,?_,hT⟩;rw [cy (by omega) (by omega)];rfl
     all_goals (try simp only [aE,rL,rD,rB,reduceIte,t0,t2,t43,t44,t45])
     all_goals (first|done|rfl|trivial|simp)
    ·refine aF (WC.exit ?_);have:i=L.length:=by omega
     subst this;rw [bK (by omega)] at hT;simp only [twL] at hT;rw [hT] at hRf;simp only at hRf;(try simp only [aE,rL,rD,rB,reduceIte,nb2]);refine ap ?_;(try simp only [aE,rL,rD,rB,reduceIte,t0]);refine (C2 (n0:=n0) (by omega) ai (by rw [hos];exact lg) bki (by omega) k0).mono fun v h8 ⟨f8,stb,nm,hstb,hnm,oa8,rk8⟩=>?_;rw [hos] at rk8;have rk8:Rk g h8 h8.bX kb stb ls nm L base (upN (dJ os):Nat) (base+(fM os:Nat)) (oW os:Nat) (gL os []):=rk8
     have x8:=f8.bX;have br8:=bri.fix f8 ⟨by omega,by omega⟩;have G8:Fix (fun b=>b<h.bX∧b≠kb) h h8:=⟨by omega,fun b hb=>by rw [f8.ca b ⟨by omega,hb.2⟩,fi.ca b (by omega),F0.ca b hb.1]⟩;refine ax ?_;(try simp only [aE,rL,rD,rB,reduceIte,t0,lU,aH,rk8.bk.at gM rfl,Sl.lenB rk8.ob.sl gM rfl]);refine ao ?_
     refine WC.while (fun m fr hk=>∃ts i,fr=⟨ts,166,[],45,none⟩∧cH h8 hk∧m=L.length - i∧i≤L.length∧ts.get 0=some (.ptr kb 0)∧ts.get 2=some (.ptr h.bX 0)∧ts.get 114=some ls∧ts.get 115=some (.int .i64 L.length)∧ts.get 116=some (.int .i64 i)∧rsL base os 0 os=rsL base os i (os.drop i)) ?_ ⟨_,0,rfl,Fix.refl _ _,rfl,by omega,?_,?_,?_,?_,?_,by simp⟩
     ·rintro m fr hk ⟨ts,i,rfl,fk,rfl,hil,t0,t2,t114,t115,t116,hS⟩
      have xk:=fk.bX;have rkk:=rk8.fix fk;have brk:=br8.fix fk;refine ap ?_;(try simp only [aE,rL,rD,rB,reduceIte,t115,t116]);refine aw ?_
      by_cases hli:i<L.length
      ·refine aG (WC.skip ?_);refine az ?_;obtain ⟨p,p1,p2⟩:=rkk.ob.sl.at (fun _=>rfl) gM rfl eP rfl (by decide) rfl hli;have p2:=p2 hk fun _ _ _ _ _=>rfl;have obi:=rkk.ob.ob _ (aP hli);have gdi:=lg.good _ (show L[i].2∈os by rw [←hoi i hli];exact aP _);have nri:=gdi.nrel;have nsi:=gdi.nsym;rw [da (by omega),hoi i hli] at hS;simp only [rsL] at hS;refine ao ?_;refine ap ?_;(try simp only [aE,rL,rD,rB,reduceIte,t114,t116,p1,p2])
       refine cz eP ?_;intro k5 c5 m5 e5;refine az ?_;refine cq c5 eP rfl (aI 7) (Oc.one obi) ?_;intro k6 c6 m6 e6;have d6:Has k6 hk.bX (L[i].1.cells L[i].2):=c6;have c6:Has k6 hk.bX [.str L[i].2.name,L[i].1.code,L[i].1.data,L[i].1.ce,L[i].1.ci,L[i].1.cf,.str L[i].2.entry]:=c6;have E6:cH hk k6:=⟨by omega,fun b hb=>by rw [e6.ca b (by omega),e5.ca b hb]⟩;have ob6:=obi.fix E6;refine ax ?_;(try simp only [aE,rL,rD,rB,reduceIte,iv,aH,c6.at gt rfl,Sl.lenB ob6.ci gt rfl])
       refine ao ?_
       refine WC.while (fun m fr hj=>∃ts j,fr=⟨ts,166,[],45,none⟩∧cH k6 hj∧m=L[i].2.ci.length - j∧j≤L[i].2.ci.length∧ts.get 0=some (.ptr kb 0)∧ts.get 2=some (.ptr h.bX 0)∧ts.get 14=some (.int .i64 i)∧ts.get 15=some (.ptr hk.bX 0)∧ts.get 114=some ls∧ts.get 115=some (.int .i64 L.length)∧ts.get 116=some (.int .i64 i)∧ts.get 122=some L[i].1.ci∧ts.get 123=some (.int .i64 L[i].2.ci.length)∧ts.get 124=some (.int .i64 j)∧rsR base os i L[i].2 L[i].2.ci=rsR base os i L[i].2 (L[i].2.ci.drop j)) ?_ ⟨_,0,rfl,Fix.refl _ _,rfl,by omega,?_,?_,?_,?_,?_,?_,?_,?_,?_,?_,by simp⟩
       ·rintro m fr hj ⟨ts,j,rfl,fj,rfl,hjl,t0,t2,t14,t15,t114,t115,t116,t122,t123,t124,hR⟩
        have xj:=fj.bX;have obj:=ob6.fix fj;refine ap ?_;(try simp only [aE,rL,rD,rB,reduceIte,t123,t124]);refine aw ?_
        by_cases hlj:j<L[i].2.ci.length
        ·refine aG (WC.skip ?_);refine az ?_;obtain ⟨p,p1,p2⟩:=obj.ci.at jh gt rfl ii rfl (by decide) rfl hlj;have p2:=p2 hj fun _ _ _ _ _=>rfl;have hrk:=(gdi.ci _ (aP hlj)).known;rw [da hlj] at hR;simp only [rsR] at hR;generalize hr:L[i].2.ci[j]=r at p2 hR hrk
         have hkn:fg r.sym L[i].2.ce=true:=by
          obtain ⟨s,hs,e⟩:=hrk;obtain ⟨q,hq,e2⟩:=List.getElem_of_mem hs;exact ru hq (by rw [e2,e])
         refine ao ?_;refine ap ?_;(try simp only [aE,rL,rD,rB,reduceIte,t122,t124,p1,p2]);refine cz ii ?_;intro k7 c7 m7 e7;refine az ?_;refine cq c7 ii rfl (aI 5) (oX r) ?_;intro k8 c8 m8 e8;have c8:Has k8 hj.bX [i64 r.sec,i64 r.off,i64 r.kind,.str r.sym,i64 r.add]:=c8;have E8:cH hj k8:=⟨by omega,fun b hb=>by rw [e8.ca b (by omega),e7.ca b hb]⟩;have d8:=(d6.fix fj).fix E8;have l8:cx (E g) k8 70 (.ptr hk.bX 0)=some (.agg (L[i].1.cells L[i].2)):=d8.agg eP rfl (aI 7)
         have ob8:=(obj.fix E8).up (K':=(·<k8.bX)) fun b hb=>by omega
         refine ax ?_;(try simp only [aE,rL,rD,rB,reduceIte,t15,l8,oo,aH,c8.at ty9 rfl]);refine (kC ob8 (by omega)).mono fun v k9 ⟨q9,e9⟩=>?_;subst q9;have y9:=e9.bX;refine az ?_;refine cz eg ?_;intro k10 c10 m10 e10;refine az ?_;refine cq c10 eg rfl (aI 5) (jD _) ?_;intro k11 c11 m11 e11;generalize hu:eD r.sym L[i].2.ce=u at c11 hR;have c11:Has k11 k9.bX [.str u.name,i64 u.sec,i64 u.off,.bool u.cn,.bool u.cm]:=c11
         have E11:cH hj k11:=⟨by omega,fun b hb=>by rw [e11.ca b (by omega),e10.ca b (by omega),e9.ca b (by omega),E8.ca b hb]⟩;have G11:cH h8 k11:=fk.trans ((E6.trans ((fj.trans (E11.sub)).sub)).sub);have rk11:=rk8.fix G11;have c11r:Has k11 hj.bX [i64 r.sec,i64 r.off,i64 r.kind,.str r.sym,i64 r.add]:=(c8.fix e9).fix (K:=(·<k9.bX)) ⟨by omega,fun b hb=>by rw [e11.ca b (by omega),e10.ca b hb]⟩ (by omega)
         refine ax ?_;(try simp only [aE,rL,rD,rB,reduceIte,t0,t14,oo,aH,c11r.at ty9 rfl]);refine (z7 rk11 (by rw [hos];exact lg) hli hkn).mono fun v k12 ⟨q12,e12⟩=>?_;rw [hos] at q12;subst q12;have y12:=e12.bX;have c12:=c11.fix e12;have c12r:=c11r.fix e12;have G12:cH h8 k12:=G11.trans (e12.sub);have br12:=br8.fix G12;generalize hA:nH base os i L[i].2 r.sym=A at hR;(try simp only [aE,rL,rD,rB,reduceIte,resV])
         refine ap ?_;have bX:rsR base os i L[i].2 L[i].2.ci=rsR base os i L[i].2 (L[i].2.ci.drop (j+1))→cH k6 k12:=fun _=>fj.trans ((E11.trans (e12.sub)).sub)
         by_cases hk2:r.kind=2
         ·rw [if_neg (by simp [hk2])] at hR;(try simp only [aE,rL,rD,rB,reduceIte,jc,aH,c12r.at ty3 rfl,i64,p7 hk2]);refine aw ?_;refine WC.cond (b:=false) (by (try simp only [aE,rL,rD,rB,reduceIte,p7 hk2]);(try simp);(try omega)) (WC.skip ?_);refine ax ?_;(try simp only [aE,rL,rD,rB,reduceIte,t124,ct])
          refine ⟨_,?_,_,j+1,rfl,bX hR,rfl,by omega,?_⟩
          ·omega
          (try simp only [aE,rL,rD,rB,reduceIte,t0,t2,t14,t15,t114,t115,t116,t122,t123]);refine ⟨aD,aD,aD,aD,aD,aD,aD,aD,aD,?_,hR⟩;rw [cy (by omega) (by omega)];rfl
         ·refine ?_
          rcases bg (A.isSome) with d1|d1
          ·rw [if_neg (by simp [d1])] at hR;(try simp only [aE,rL,rD,rB,reduceIte,d1,jc,fH,aH,c12r.at ty3 rfl,c12.at ty4 rfl,i64,kz hk2,cY,aV,bE]);refine aw ?_;refine WC.cond (b:=false) (by (try simp only [aE,rL,rD,rB,reduceIte,d1,kz hk2]);(try simp);(try omega)) (WC.skip ?_);refine ax ?_;(try simp only [aE,rL,rD,rB,reduceIte,t124,ct])
           refine ⟨_,?_,_,j+1,rfl,bX hR,rfl,by omega,?_⟩
           ·omega
           (try simp only [aE,rL,rD,rB,reduceIte,t0,t2,t14,t15,t114,t115,t116,t122,t123]);refine ⟨aD,aD,aD,aD,aD,aD,aD,aD,aD,?_,hR⟩;rw [cy (by omega) (by omega)];rfl
          rcases bg (u.cm) with d2|d2
          ·rw [if_neg (by simp [d1,d2])] at hR;(try simp only [aE,rL,rD,rB,reduceIte,d1,d2,jc,fH,aH,c12r.at ty3 rfl,c12.at ty4 rfl,i64,kz hk2,cY,aV,bE]);refine aw ?_;refine WC.cond (b:=false) (by (try simp only [aE,rL,rD,rB,reduceIte,d1,d2,kz hk2]);(try simp);(try omega)) (WC.skip ?_);refine ax ?_;(try simp only [aE,rL,rD,rB,reduceIte,t124,ct])
           refine ⟨_,?_,_,j+1,rfl,bX hR,rfl,by omega,?_⟩
           ·omega
           (try simp only [aE,rL,rD,rB,reduceIte,t0,t2,t14,t15,t114,t115,t116,t122,t123]);refine ⟨aD,aD,aD,aD,aD,aD,aD,aD,aD,?_,hR⟩;rw [cy (by omega) (by omega)];rfl
          rw [if_pos ⟨hk2,d1,d2⟩] at hR;rw [hR] at hS;(try simp only [aE,rL,rD,rB,reduceIte,d1,d2,jc,fH,aH,c12r.at ty3 rfl,c12.at ty4 rfl,i64,kz hk2,cY,aV,bE]);refine aw ?_;refine WC.cond (b:=true) (by (try simp only [aE,rL,rD,rB,reduceIte,d1,d2,kz hk2]);(try simp);(try omega)) ?_;refine ap ?_;(try simp only [aE,rL,rD,rB,reduceIte,t2,t14,vK]);refine cq br12 cP rfl (aI 2) rfl ?_;intro k13 c13 m13 e13
          have l13:cx (E g) k13 35 (.ptr h.bX 0)=some (.agg (cG ((i:Int),22))):=c13.agg cP rfl (aI 2);refine az ?_;refine WC.ret ?_;(try simp only [aE,rL,rD,rB,reduceIte,t2,l13]);refine ⟨⟨by omega,fun b hb=>by rw [e13.ca b (by omega),G12.ca b (by omega),G8.ca b hb]⟩,?_⟩;simp only [hRf,hS]
        ·refine aF (WC.exit ?_);have:j=L[i].2.ci.length:=by omega
         subst this;rw [bU] at hR;simp only [rsR] at hR;rw [hR] at hS;(try simp only [aE,rL,rD,rB,reduceIte,nb10]);refine ap ?_;(try simp only [aE,rL,rD,rB,reduceIte,t116,ct])
         refine ⟨_,?_,_,i+1,rfl,fk.trans ((E6.trans (fj.sub)).sub),rfl,by omega,?_⟩
         ·omega
         (try simp only [aE,rL,rD,rB,reduceIte,t0,t2,t114,t115]);refine ⟨aD,aD,aD,aD,?_,hS⟩;rw [cy (by omega) (by omega)];rfl
       all_goals (try simp only [aE,rL,rD,rB,reduceIte,t0,t2,t114,t115,t116])
       all_goals (first|done|rfl|trivial|simp)
      ·refine aF (WC.exit ?_);have:i=L.length:=by omega
       subst this;rw [bK (by omega)] at hS;simp only [rsL] at hS;rw [hS] at hRf;simp only at hRf;(try simp only [aE,rL,rD,rB,reduceIte,nb8]);refine ap ?_;(try simp only [aE,rL,rD,rB,reduceIte,t0,kW,aH,rkk.bk.at ty2 rfl,i64,gX]);refine aw ?_;have hsz:((131072:Int)<(oW os:Nat))↔131072<oW os:=by omega
       by_cases hb9:131072<oW os
       ·rw [if_pos hb9] at hRf;refine WC.cond (b:=true) (by (try simp only [aE,rL,rD,rB,reduceIte,aJ (hsz.2 hb9)]);(try simp);(try omega)) ?_;refine ap ?_;(try simp only [aE,rL,rD,rB,reduceIte,t2,mE]);refine cq brk cP rfl (aI 2) rfl ?_;intro k13 c13 m13 e13;have l13:cx (E g) k13 35 (.ptr h.bX 0)=some (.agg (cG (0,18))):=c13.agg cP rfl (aI 2);refine az ?_;refine WC.ret ?_;(try simp only [aE,rL,rD,rB,reduceIte,t2,l13])
        refine ⟨⟨by omega,fun b hb=>by rw [e13.ca b (by omega),fk.ca b (by omega),G8.ca b hb]⟩,?_⟩;simp only [hRf]
       ·rw [if_neg hb9] at hRf;refine WC.cond (b:=false) (by (try simp only [aE,rL,rD,rB,reduceIte,aK (fun q=>hb9 (hsz.1 q))]);(try simp);(try omega)) (WC.skip ?_);refine ax ?_;(try simp only [aE,rL,rD,rB,reduceIte,t2,iR]);refine cq brk cP rfl (aI 2) (cN _) ?_;intro k13 c13 m13 e13;have l13:cx (E g) k13 35 (.ptr h.bX 0)=some (.agg (cG (0,0))):=c13.agg cP rfl (aI 2);refine az ?_;refine WC.ret ?_;(try simp only [aE,rL,rD,rB,reduceIte,t2,l13])
        refine ⟨⟨by omega,fun b hb=>by rw [e13.ca b (by omega),fk.ca b (by omega),G8.ca b hb]⟩,?_⟩;rw [hRf];refine ⟨aD,lg,stb,nm,by omega,?_⟩;have sN:=Sl.fix (K:=fun b=>b<h8.bX∧h.bX+1≤b) rkk.ss (fun b o n c e=>⟨rkk.nmi _ _ _ _ e,by have:=hnm _ _ _ _ e;omega⟩) (e13.sub);exact ⟨rkk.bk.fix e13,by rw [hos];exact (by have:=rkk.bs;rw [hos] at this;exact this.fix e13),sN,rkk.nmi.sub,((oa8.fix fk).fix e13).up,by have:=rkk.lk;omega,by have:=rkk.lt;omega,aI _⟩
     all_goals (try simp only [aE,rL,rD,rB,reduceIte,t0,t2])
     all_goals (first|done|rfl|trivial|simp)
   all_goals (try simp only [aE,rL,rD,rB,reduceIte,t0,t2])
   all_goals (first|done|rfl|trivial|simp)
 all_goals (try simp only [aE,rL,rD,rB,reduceIte])
 all_goals (first|done|rfl|trivial|simp)
end Go.Proofs.OP
