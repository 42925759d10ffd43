/- Walks: the reference's Check. -/
import Derived.Test.YtloblhhnlaaajaaDoorY21
set_option maxHeartbeats 16000000
set_option maxRecDepth 100000
set_option linter.unusedVariables false
set_option linter.unusedSimpArgs false
set_option linter.defProp false
namespace Go.Proofs.OP
open Go Go.Ev
open Go.Proofs
open Nat renaming reduceLT → rL, reduceEqDiff → rD, reduceBEq → rB
variable {g : T (List V)}
theorem kL {E:Env} {ops:List Oper} {pl:List Stp} {rd:List (Nat×V)} {nt fn:Nat} {mks:List D} {rnd:Option Nat} {h:H} {Q:Fr→H→Prop} {ts:T V} (L:List (Nat×V)) (hL:∀p∈L,ts.get p.1=some p.2)
  (k:∀ts2:T V,(∀p∈L,ts2.get p.1=some p.2)→dR E ops pl rd ⟨ts2,nt,mks,fn,rnd⟩ h Q):dR E ops pl rd ⟨ts,nt,mks,fn,rnd⟩ h Q:=k ts hL
theorem Ha {k:List UInt8} {x:SymD} {A:List SymD} (h:fg k A=false):fg k (A++[x])=(x.name==k):=by
 have h:fnd k A=none:=by
  cases hq:fnd k A with
  | none=>rfl
  | some j=>rw [fg,hq] at h;cases h
 rw [fg,xv h]
 by_cases hx:x.name=k
 ·rw [if_pos hx];simp [hx]
 ·rw [if_neg hx];simp [hx]
theorem ru {k:List UInt8} {L:List SymD} {i:Nat} (hi:i<L.length) (hx:L[i].name=k):fg k L=true:=by
 cases hq:fg k L with
 | true=>rfl
 | false =>
  exfalso
  have h:fnd k L=none:=by
   cases hp:fnd k L with
   | none=>rfl
   | some j=>rw [fg,hp] at hq;cases hq
  clear hq
  induction L generalizing i with
  | nil=>exact absurd hi (Nat.not_lt_zero _)
  | cons a r ih =>
   simp only [fnd] at h
   split at h
   ·cases h
   ·rename_i ha;have h:=Option.map_eq_none_iff.1 h
    cases i with
    | zero=>exact ha hx
    | succ i=>exact ih (i:=i) (by simpa using hi) hx h
theorem rr (o:ObjD):uu o=if (16384:Int)<o.code.length∨(16384:Int)<o.data.length∨(500:Int)<o.ce.length∨(1000:Int)<o.ci.length∨(20:Int)<o.cf.length then 18 else 0:=by
 unfold uu sT
 by_cases h:(16384:Int)<o.code.length∨(16384:Int)<o.data.length∨(500:Int)<o.ce.length∨(1000:Int)<o.ci.length∨(20:Int)<o.cf.length
 ·rw [if_pos h,if_pos];simpa only [List.any_cons,List.any_nil,Bool.or_false,bS,decide_eq_true_eq] using h
 ·rw [if_neg h,if_neg];simpa only [List.any_cons,List.any_nil,Bool.or_false,bS,decide_eq_true_eq] using h
theorem Dg (a b:List UInt8):oH [a,b]=if (64:Int)<a.length∨(64:Int)<b.length then 21 else 0:=by
 have e:oH [a,b]=orE (mW a) (orE (mW b) 0):=rfl;rw [e]
 by_cases h1:64<a.length
 ·have q:mW a=21:=by rw [mW,if_pos h1]
  rw [dH (by rw [q];decide),q,if_pos (.inl (by omega))]
 ·have q:mW a=0:=by rw [mW,if_neg h1]
  rw [jy q]
  by_cases h2:64<b.length
  ·have q:mW b=21:=by rw [mW,if_pos h2]
   rw [dH (by rw [q];decide),q,if_pos (.inr (by omega))]
  ·have q:mW b=0:=by rw [mW,if_neg h2]
   rw [jy q,if_neg (by omega)]
theorem zo {k:List UInt8} {L:List SymD} {j:Nat} (h:fnd k L=some j) (hj:j<L.length):eD k L=L[j]:=by
 simp only [eD,h,List.getElem?_eq_getElem hj]
theorem Cm (o:ObjD):tS o=if o.entry≠[]∧(fg o.entry o.ce=false∨(eD o.entry o.ce).sec=0∨(eD o.entry o.ce).cn=false) then 22 else 0:=by
 unfold tS
 cases hf:fnd o.entry o.ce with
 | none =>
  simp only [fg,hf,Option.isSome_none,true_or,and_true]
  by_cases he:o.entry=[]<;>simp [he]
 | some j =>
  obtain ⟨hj,_⟩:=qJ hf;simp only [fg,hf,bF,Bool.true_eq_false,false_or,List.getElem?_eq_getElem hj,zo hf hj]
  by_cases he:o.entry=[]<;>simp [he]
theorem Gz {h:H} {c:Oc} {o:ObjD} (ob:Ob g h (·<h.bX) c o) (fit:Fits o):WF (E g) 23 [.agg (c.cells o)] h fun v h'=>v=i64 (ig o)∧cH h h':=by
 have fs:=fit.ce;have fr:=fit.ci;have fn:=fit.cf;have fcode:=fit.code;have fdata:=fit.data;have hz:∀n:Int,(V.bool (n==0))=.bool (decide (n=0)):=fun n=>by congr 1
 have hnz:∀n:Int,(V.bool (n != 0))=.bool (!decide (n=0)):=fun n=>by congr 1
 refine WF.enter fn23 rfl ?_;refine au ?_;refine eI (v:=.agg (c.cells o)) (by (try simp only [aE,rL,rD,rB,reduceIte])) ?_;intro h1 b1 n1 f1;refine az ?_;have b1:Has h1 h.bX [.str o.name,c.code,c.data,c.ce,c.ci,c.cf,.str o.entry]:=b1;have ob1:=(ob.fix f1 (fun _ h=>h)).up (K':=(·<h1.bX)) (fun _ h=>by omega)
 rcases bz ((16384:Int)<o.code.length) with c1|c1
 ·refine ap ?_;(try simp only [aE,rL,rD,rB,reduceIte,jm,jl,iw,iv,iW,aH,b1.at cM rfl,b1.at gu rfl,b1.at gt rfl,b1.at cD rfl,ob1.code.len,ob1.data.len,Sl.lenB ob1.ce gu rfl,Sl.lenB ob1.ci gt rfl,Sl.lenB ob1.cf cD rfl,aJ c1]);refine aw ?_;refine aG ?_;refine au ?_;refine WC.ret ?_;refine az ?_;refine ⟨?_,f1⟩;have hl:uu o=18:=by rw [rr,if_pos (by simp [c1])]
  rw [ig,dH (by rw [hl];decide),hl];rfl
 rcases bz ((16384:Int)<o.data.length) with c2|c2
 ·refine ap ?_;(try simp only [aE,rL,rD,rB,reduceIte,jm,jl,iw,iv,iW,aH,b1.at cM rfl,b1.at gu rfl,b1.at gt rfl,b1.at cD rfl,ob1.code.len,ob1.data.len,Sl.lenB ob1.ce gu rfl,Sl.lenB ob1.ci gt rfl,Sl.lenB ob1.cf cD rfl,aK c1,aJ c2]);refine aw ?_;refine aG ?_;refine au ?_;refine WC.ret ?_;refine az ?_;refine ⟨?_,f1⟩;have hl:uu o=18:=by rw [rr,if_pos (by simp [c1,c2])]
  rw [ig,dH (by rw [hl];decide),hl];rfl
 rcases bz ((500:Int)<o.ce.length) with c3|c3
 ·refine ap ?_;(try simp only [aE,rL,rD,rB,reduceIte,jm,jl,iw,iv,iW,aH,b1.at cM rfl,b1.at gu rfl,b1.at gt rfl,b1.at cD rfl,ob1.code.len,ob1.data.len,Sl.lenB ob1.ce gu rfl,Sl.lenB ob1.ci gt rfl,Sl.lenB ob1.cf cD rfl,aK c1,aK c2,aJ c3]);refine aw ?_;refine aG ?_;refine au ?_;refine WC.ret ?_;refine az ?_;refine ⟨?_,f1⟩;have hl:uu o=18:=by rw [rr,if_pos (by simp [c1,c2,c3])]
  rw [ig,dH (by rw [hl];decide),hl];rfl
 rcases bz ((1000:Int)<o.ci.length) with c4|c4
 ·refine ap ?_;(try simp only [aE,rL,rD,rB,reduceIte,jm,jl,iw,iv,iW,aH,b1.at cM rfl,b1.at gu rfl,b1.at gt rfl,b1.at cD rfl,ob1.code.len,ob1.data.len,Sl.lenB ob1.ce gu rfl,Sl.lenB ob1.ci gt rfl,Sl.lenB ob1.cf cD rfl,aK c1,aK c2,aK c3,aJ c4]);refine aw ?_;refine aG ?_;refine au ?_;refine WC.ret ?_;refine az ?_;refine ⟨?_,f1⟩;have hl:uu o=18:=by rw [rr,if_pos (by simp [c1,c2,c3,c4])]
  rw [ig,dH (by rw [hl];decide),hl];rfl
 rcases bz ((20:Int)<o.cf.length) with c5|c5
 ·refine ap ?_;(try simp only [aE,rL,rD,rB,reduceIte,jm,jl,iw,iv,iW,aH,b1.at cM rfl,b1.at gu rfl,b1.at gt rfl,b1.at cD rfl,ob1.code.len,ob1.data.len,Sl.lenB ob1.ce gu rfl,Sl.lenB ob1.ci gt rfl,Sl.lenB ob1.cf cD rfl,aK c1,aK c2,aK c3,aK c4,aJ c5]);refine aw ?_;refine aG ?_;refine au ?_;refine WC.ret ?_;refine az ?_;refine ⟨?_,f1⟩;have hl:uu o=18:=by rw [rr,if_pos (by simp [c1,c2,c3,c4,c5])]
  rw [ig,dH (by rw [hl];decide),hl];rfl
 have hce:ig o=orE (oH [o.name,o.entry]) (orE (lH o [] o.ce) (orE (nX o [] o.ci) (orE (lu [] o.cf) (tS o)))):=by
  rw [ig,jy];rw [rr,if_neg (by simp only [c1,c2,c3,c4,c5,or_self,not_false_iff])]
 refine ap ?_;(try simp only [aE,rL,rD,rB,reduceIte,jm,jl,iw,iv,iW,aH,b1.at cM rfl,b1.at gu rfl,b1.at gt rfl,b1.at cD rfl,ob1.code.len,ob1.data.len,Sl.lenB ob1.ce gu rfl,Sl.lenB ob1.ci gt rfl,Sl.lenB ob1.cf cD rfl,aK c1,aK c2,aK c3,aK c4,aK c5]);refine aw ?_;refine aF (WC.skip ?_);refine az ?_;rw [Dg] at hce
 rcases bz ((64:Int)<o.name.length) with d1|d1
 ·refine ap ?_;(try simp only [aE,rL,rD,rB,reduceIte,nj,hJ,aH,b1.at ty9 rfl,gT,aJ d1]);refine aw ?_;refine aG ?_;refine au ?_;refine WC.ret ?_;refine az ?_;refine ⟨?_,f1⟩;rw [hce,if_pos (by simp [d1]),dH (by decide)];rfl
 rcases bz ((64:Int)<o.entry.length) with d2|d2
 ·refine ap ?_;(try simp only [aE,rL,rD,rB,reduceIte,nj,hJ,aH,b1.at ty9 rfl,gT,aK d1,aJ d2]);refine aw ?_;refine aG ?_;refine au ?_;refine WC.ret ?_;refine az ?_;refine ⟨?_,f1⟩;rw [hce,if_pos (by simp [d1,d2]),dH (by decide)];rfl
 rw [if_neg (by simp only [d1,d2,or_self,not_false_iff]),jy rfl] at hce;refine ap ?_;(try simp only [aE,rL,rD,rB,reduceIte,nj,hJ,aH,b1.at ty9 rfl,gT,aK d1,aK d2]);refine aw ?_;refine aF (WC.skip ?_);refine ax ?_;(try simp only [aE,rL,rD,rB,reduceIte,iw,aH,b1.at gu rfl,Sl.lenB ob1.ce gu rfl]);refine ao ?_
 refine WC.while (fun m fr hk=>∃ts i,fr=⟨ts,291,[],23,none⟩∧Fix (·<h1.bX) h1 hk∧m=o.ce.length - i∧i≤o.ce.length∧ts.get 1=some (.ptr h.bX 0)∧ts.get 60=some c.ce∧ts.get 61=some (.int .i64 o.ce.length)∧ts.get 62=some (.int .i64 i)∧lH o (o.ce.take i) (o.ce.drop i)=lH o [] o.ce) ?_ ⟨_,0,rfl,Fix.refl _ _,rfl,by omega,?_,?_,?_,?_,rfl⟩
 ·rintro m fr hk ⟨ts,i,rfl,ff,rfl,hi,t1,t60,t61,t62,hr⟩
  have xk:=ff.bX;have bk:=b1.fix ff;have obk:=(ob1.fix ff (fun x hx=>hx)).up (K':=(·<hk.bX)) (fun x hx=>by omega);have Fk0:cH h hk:=f1.trans (ff.sub fun x hx=>by omega);refine ap ?_;(try simp only [aE,rL,rD,rB,reduceIte,t61,t62]);refine aw ?_
  by_cases hlt:i<o.ce.length
  ·refine aG (WC.skip ?_);refine az ?_;obtain ⟨p,p1,p2⟩:=obk.ce.at (fun _=>rfl) gu rfl eg rfl (by decide) rfl hlt;have p2:=p2 hk fun _ _ _ _ _=>rfl;rw [List.drop_eq_getElem_cons hlt,lH] at hr;generalize hx:o.ce[i]=x at *;refine ao ?_;refine ap ?_;(try simp only [aE,rL,rD,rB,reduceIte,t60,t62,p1,p2]);refine cz eg ?_;intro h5 b5 n5 f5;refine az ?_;refine cq b5 eg rfl (by decide) rfl ?_;intro h6 b6 n6 f6
   have b6:Has h6 hk.bX [.str x.name,i64 x.sec,i64 x.off,.bool x.cn,.bool x.cm]:=b6;have Fk:Fix (·<hk.bX) hk h6:=⟨by omega,fun c hc=>by rw [f6.ca c (by omega),f5.ca c hc]⟩;have F6:Fix (·<h1.bX) h1 h6:=ff.trans (Fk.sub fun x hx=>by omega);have K6:cH h h6:=Fk0.trans (Fk.sub fun x hx=>by have:=Fk0.bX;omega);have bb:=bk.fix Fk;have ob6:=(obk.fix Fk (fun x hx=>hx)).up (K':=(·<h6.bX)) (fun x hx=>by omega)
   have l1:cx (E g) h6 9 (.ptr hk.bX 0)=some (.str x.name):=b6.at ty9 rfl 0;refine ax ?_;(try simp only [aE,rL,rD,rB,reduceIte,ry,aH,l1]);refine js.mono fun v h7 ⟨e7,e7'⟩=>?_;subst e7 e7';refine ay ?_;refine aw ?_
   rcases (bz (eR x.name=0)).symm with hn|hn
   ·refine WC.cond (b:=true) (by (try simp only [aE,rL,rD,rB,reduceIte,hn]);(try simp);(try omega)) ?_;refine au ?_;refine WC.ret ?_;refine az ?_;have hs:oP o x (fg x.name (o.ce.take i))=eR x.name:=by rw [oP,if_pos hn]
    rw [hs,dH hn] at hr;exact ⟨by rw [hce,←hr,dH hn]<;>rfl,K6⟩
   refine WC.cond (b:=false) (by (try simp only [aE,rL,rD,rB,reduceIte,hn]);(try simp);(try omega)) (WC.skip ?_);refine az ?_;obtain ⟨s',q1,q2,q3⟩:=Rcs.upto ob6.ce (fun _=>rfl) gu rfl eg rfl (n:=i) (by omega);have hll:(o.ce.take i).length=i:=by simp;omega
   refine ap ?_;(try simp only [aE,rL,rD,rB,reduceIte,t1,t62,iw,aH,bb.at gu rfl,q1,Sl.lenB q2 gu rfl,hll]);refine ao ?_
   refine WC.while (fun m fr hj=>∃ts j,fr=⟨ts,291,[],23,none⟩∧Fix (·<h7.bX) h7 hj∧m=i - j∧j≤i∧ts.get 1=some (.ptr h.bX 0)∧ts.get 4=some (.ptr hk.bX 0)∧ts.get 60=some c.ce∧ts.get 61=some (.int .i64 o.ce.length)∧ts.get 62=some (.int .i64 i)∧ts.get 76=some s'∧ts.get 77=some (.int .i64 i)∧ts.get 78=some (.int .i64 j)∧fg x.name ((o.ce.take i).take j)=false) ?_ ⟨_,0,rfl,Fix.refl _ _,rfl,by omega,?_,?_,?_,?_,?_,?_,?_,?_,rfl⟩
   ·rintro m fr hj ⟨ts,j,rfl,fj,rfl,hji,t1,t4,t60,t61,t62,t76,t77,t78,hno⟩
    have xj:=fj.bX;have Fj:Fix (·<h1.bX) h1 hj:=F6.trans (fj.sub fun x hx=>by omega);have Kj:cH h hj:=K6.trans (fj.sub fun x hx=>by have:=K6.bX;omega);have bj:=b6.fix fj;refine ap ?_;(try simp only [aE,rL,rD,rB,reduceIte,t77,t78]);refine aw ?_
    by_cases hjt:j<i
    ·refine aG (WC.skip ?_);refine az ?_;have hjl:j<(o.ce.take i).length:=by omega
     obtain ⟨p,p1,p2⟩:=q2.at (fun _=>rfl) gu rfl eg rfl (by decide) rfl hjl;have p2:=p2 hj fun b o m c e=>fj.ca b (by have:=q3 _ ob6.inS _ _ _ _ e;omega);generalize hy:(o.ce.take i)[j]=y at *;refine ao ?_;refine ap ?_;(try simp only [aE,rL,rD,rB,reduceIte,t76,t78,p1,p2]);refine cz eg ?_;intro h8 b8 n8 f8;refine az ?_;refine cq b8 eg rfl (by decide) rfl ?_;intro h9 b9 n9 f9;have b9:Has h9 hj.bX (iD y):=b9
     have Fk9:Fix (·<hj.bX) hj h9:=⟨by omega,fun c hc=>by rw [f9.ca c (by omega),f8.ca c hc]⟩;have l9:cx (E g) h9 9 (.ptr hj.bX 0)=some (.str y.name):=b9.at ty9 rfl 0;have l8:cx (E g) h9 9 (.ptr hk.bX 0)=some (.str x.name):=(bj.fix Fk9).at ty9 rfl 0;refine ax ?_;(try simp only [aE,rL,rD,rB,reduceIte,t4,ry,aH,l8,l9,gH]);refine aw ?_
     cases hb:(y.name==x.name) with
     | true =>
      refine WC.cond (b:=true) (by (try simp only [aE,rL,rD,rB,reduceIte,hb]);(try simp);(try omega)) ?_;refine au ?_;refine WC.ret ?_;refine az ?_;have ht:fg x.name (o.ce.take i)=true:=ru hjl (by rw [hy];exact eq_of_beq hb);have hs:oP o x (fg x.name (o.ce.take i))=38:=by rw [oP,if_neg (by simp [hn]),if_pos ht]
      rw [hs,dH (by decide)] at hr;exact ⟨by rw [hce,←hr,dH (by decide)]<;>rfl,Kj.trans (Fk9.sub fun x hx=>by have:=Kj.bX;omega)⟩
     | false =>
      refine WC.cond (b:=false) (by (try simp only [aE,rL,rD,rB,reduceIte,hb]);(try simp);(try omega)) (WC.skip ?_);refine ax ?_;(try simp only [aE,rL,rD,rB,reduceIte,t78,ct])
      refine ⟨_,?_,_,j+1,rfl,fj.trans (Fk9.sub fun x hx=>by omega),rfl,by omega,?_⟩
      ·omega
      (try simp only [aE,rL,rD,rB,reduceIte,t1,t4,t60,t61,t62,t76,t77])
      refine ⟨aD,aD,aD,aD,aD,aD,aD,?_,?_⟩
      ·rw [cy (by omega) (by omega)];rfl
      ·rw [bW hjl,Ha hno,hy,hb]
    ·refine aF (WC.exit ?_);have:j=i:=by omega
     subst this;have hno:fg x.name (o.ce.take j)=false:=by rwa [bT (by omega)] at hno
     rw [hno] at hr;refine az ?_;have bb:=bb.fix fj;have obj:=(ob6.fix fj (fun x hx=>hx)).up (K':=(·<hj.bX)) (fun x hx=>by omega);have l2:cx (E g) hj 3 (.ptr hk.bX 1)=some (.int .i64 x.sec):=bj.at ty3 rfl 1;have l3:cx (E g) hj 2 (.ptr hk.bX 2)=some (.int .i64 x.off):=bj.at ty2 rfl 2;have l4:cx (E g) hj 4 (.ptr hk.bX 3)=some (.bool x.cn):=bj.at ty4 rfl 3;have l5:cx (E g) hj 4 (.ptr hk.bX 4)=some (.bool x.cm):=bj.at ty4 rfl 4
     have lo:cx (E g) hj 70 (.ptr h.bX 0)=some (.agg (c.cells o)):=bb.agg eP rfl (o:=0) (by show 0+7≤7;decide)
     have hS:oP o x false=if x.sec<0∨2<x.sec∨x.off<0∨cU o x.sec<x.off then 34 else if x.cn=false∧(x.sec=0∨x.cm=true) then 14 else 0:=by
      rw [oP,if_neg (by simp [hn]),if_neg (by simp)]
     refine aw ?_
     refine WC.mono (Q:=fun e fr h'=>e=.normal∧∃ts',fr=⟨ts',291,[],23,none⟩∧ts'.get 125=some (.bool (decide (x.sec<0∨2<x.sec∨x.off<0∨cU o x.sec<x.off)))∧ts'.get 1=some (.ptr h.bX 0)∧ts'.get 4=some (.ptr hk.bX 0)∧ts'.get 60=some c.ce∧ts'.get 61=some (.int .i64 o.ce.length)∧ts'.get 62=some (.int .i64 j)∧cH hj h') ?_ ?_
     ·skip
      rcases bz (x.sec<0) with r1|r1
      ·((repeat refine WC.seq ?_);refine WC.draw (plans:=jI) (by kernel_rfl) ?_;simp only [jI,ak])
       generalize htl:([⟨24,false,false,[]⟩,⟨25,false,true,[]⟩,⟨26,false,true,[]⟩,⟨27,false,false,[]⟩,⟨28,false,false,[]⟩,⟨29,false,true,[]⟩,⟨30,false,true,[]⟩,⟨31,false,false,[]⟩,⟨32,false,true,[]⟩,⟨33,true,false,[29]⟩,⟨34,false,true,[]⟩,⟨35,false,true,[]⟩,⟨36,false,false,[]⟩,⟨37,false,false,[]⟩]:List Stp)=tl;(try simp (maxSteps:=2000000) only [aE,rL,rD,rB,reduceIte,af,Chk,un,t1,t4,dz,iJ,aH,l2,l3,hz,hnz,aV,bE,aJ r1])
       refine kL [(111,.bool true),(1,.ptr h.bX 0),(4,.ptr hk.bX 0),(60,c.ce),(61,.int .i64 o.ce.length),(62,.int .i64 j)] ?_ ?_
       ·simp only [ak];(try simp only [aE,rL,rD,rB,reduceIte,t1,t4,t60,t61,t62]);exact ⟨by trivial,by trivial,by trivial,by trivial,by trivial,by trivial⟩
       clear t1 t4 t60 t61 t62
       intro ts2 hts;simp only [ak] at hts;obtain ⟨t111,t1,t4,t60,t61,t62⟩:=hts;subst htl;(try simp (maxSteps:=2000000) only [aE,rL,rD,rB,reduceIte,af,Chk,un,t111,t1,t4,dz,iJ,aH,l2,l3]);refine ⟨_,rfl,?_,?_,?_,?_,?_,?_,Fix.refl _ _⟩
       all_goals (try simp only [aE,rL,rD,rB,reduceIte,t1,t4,t60,t61,t62])
       have hB:(x.sec<0∨2<x.sec∨x.off<0∨cU o x.sec<x.off):=by omega
       rw [aJ hB]
      rcases bz ((2:Int)<x.sec) with r2|r2
      ·((repeat refine WC.seq ?_);refine WC.draw (plans:=jI) (by kernel_rfl) ?_;simp only [jI,ak])
       generalize htl:([⟨24,false,false,[]⟩,⟨25,false,true,[]⟩,⟨26,false,true,[]⟩,⟨27,false,false,[]⟩,⟨28,false,false,[]⟩,⟨29,false,true,[]⟩,⟨30,false,true,[]⟩,⟨31,false,false,[]⟩,⟨32,false,true,[]⟩,⟨33,true,false,[29]⟩,⟨34,false,true,[]⟩,⟨35,false,true,[]⟩,⟨36,false,false,[]⟩,⟨37,false,false,[]⟩]:List Stp)=tl;(try simp (maxSteps:=2000000) only [aE,rL,rD,rB,reduceIte,af,Chk,un,t1,t4,dz,iJ,aH,l2,l3,hz,hnz,aV,bE,aK r1,aJ r2])
       refine kL [(111,.bool true),(1,.ptr h.bX 0),(4,.ptr hk.bX 0),(60,c.ce),(61,.int .i64 o.ce.length),(62,.int .i64 j)] ?_ ?_
       ·simp only [ak];(try simp only [aE,rL,rD,rB,reduceIte,t1,t4,t60,t61,t62]);exact ⟨by trivial,by trivial,by trivial,by trivial,by trivial,by trivial⟩
       clear t1 t4 t60 t61 t62
       intro ts2 hts;simp only [ak] at hts;obtain ⟨t111,t1,t4,t60,t61,t62⟩:=hts;subst htl;(try simp (maxSteps:=2000000) only [aE,rL,rD,rB,reduceIte,af,Chk,un,t111,t1,t4,dz,iJ,aH,l2,l3]);refine ⟨_,rfl,?_,?_,?_,?_,?_,?_,Fix.refl _ _⟩
       all_goals (try simp only [aE,rL,rD,rB,reduceIte,t1,t4,t60,t61,t62])
       have hB:(x.sec<0∨2<x.sec∨x.off<0∨cU o x.sec<x.off):=by omega
       rw [aJ hB]
      rcases bz (x.off<0) with r3|r3
      ·((repeat refine WC.seq ?_);refine WC.draw (plans:=jI) (by kernel_rfl) ?_;simp only [jI,ak])
       generalize htl:([⟨24,false,false,[]⟩,⟨25,false,true,[]⟩,⟨26,false,true,[]⟩,⟨27,false,false,[]⟩,⟨28,false,false,[]⟩,⟨29,false,true,[]⟩,⟨30,false,true,[]⟩,⟨31,false,false,[]⟩,⟨32,false,true,[]⟩,⟨33,true,false,[29]⟩,⟨34,false,true,[]⟩,⟨35,false,true,[]⟩,⟨36,false,false,[]⟩,⟨37,false,false,[]⟩]:List Stp)=tl;(try simp (maxSteps:=2000000) only [aE,rL,rD,rB,reduceIte,af,Chk,un,t1,t4,dz,iJ,aH,l2,l3,hz,hnz,aV,bE,aK r1,aK r2,aJ r3])
       refine kL [(111,.bool true),(1,.ptr h.bX 0),(4,.ptr hk.bX 0),(60,c.ce),(61,.int .i64 o.ce.length),(62,.int .i64 j)] ?_ ?_
       ·simp only [ak];(try simp only [aE,rL,rD,rB,reduceIte,t1,t4,t60,t61,t62]);exact ⟨by trivial,by trivial,by trivial,by trivial,by trivial,by trivial⟩
       clear t1 t4 t60 t61 t62
       intro ts2 hts;simp only [ak] at hts;obtain ⟨t111,t1,t4,t60,t61,t62⟩:=hts;subst htl;(try simp (maxSteps:=2000000) only [aE,rL,rD,rB,reduceIte,af,Chk,un,t111,t1,t4,dz,iJ,aH,l2,l3]);refine ⟨_,rfl,?_,?_,?_,?_,?_,?_,Fix.refl _ _⟩
       all_goals (try simp only [aE,rL,rD,rB,reduceIte,t1,t4,t60,t61,t62])
       have hB:(x.sec<0∨2<x.sec∨x.off<0∨cU o x.sec<x.off):=by omega
       rw [aJ hB]
      by_cases r4:x.sec=0
      ·have hsl:cU o x.sec=0:=by rw [r4];rfl
       have r6:¬(0:Int)<x.sec:=by omega
       by_cases r5:x.off=0
       ·((repeat refine WC.seq ?_);refine WC.draw (plans:=jI) (by kernel_rfl) ?_;simp only [jI,ak])
        generalize htl:([⟨24,false,false,[]⟩,⟨25,false,true,[]⟩,⟨26,false,true,[]⟩,⟨27,false,false,[]⟩,⟨28,false,false,[]⟩,⟨29,false,true,[]⟩,⟨30,false,true,[]⟩,⟨31,false,false,[]⟩,⟨32,false,true,[]⟩,⟨33,true,false,[29]⟩,⟨34,false,true,[]⟩,⟨35,false,true,[]⟩,⟨36,false,false,[]⟩,⟨37,false,false,[]⟩]:List Stp)=tl;(try simp (maxSteps:=2000000) only [aE,rL,rD,rB,reduceIte,af,Chk,un,t1,t4,dz,iJ,aH,l2,l3,hz,hnz,aV,bE,aK r1,aK r2,aK r3,aJ r4,aJ r5])
        refine kL [(111,.bool false),(1,.ptr h.bX 0),(4,.ptr hk.bX 0),(60,c.ce),(61,.int .i64 o.ce.length),(62,.int .i64 j)] ?_ ?_
        ·simp only [ak];(try simp only [aE,rL,rD,rB,reduceIte,t1,t4,t60,t61,t62]);exact ⟨by trivial,by trivial,by trivial,by trivial,by trivial,by trivial⟩
        clear t1 t4 t60 t61 t62
        intro ts2 hts;simp only [ak] at hts;obtain ⟨t111,t1,t4,t60,t61,t62⟩:=hts;subst htl;(try simp (maxSteps:=2000000) only [aE,rL,rD,rB,reduceIte,af,Chk,un,t111,t1,t4,dz,iJ,aH,l2,l3,aK r6]);refine ⟨_,rfl,?_,?_,?_,?_,?_,?_,Fix.refl _ _⟩
        all_goals (try simp only [aE,rL,rD,rB,reduceIte,t1,t4,t60,t61,t62])
        have hB:¬(x.sec<0∨2<x.sec∨x.off<0∨cU o x.sec<x.off):=by omega
        rw [aK hB]
       ·((repeat refine WC.seq ?_);refine WC.draw (plans:=jI) (by kernel_rfl) ?_;simp only [jI,ak])
        generalize htl:([⟨24,false,false,[]⟩,⟨25,false,true,[]⟩,⟨26,false,true,[]⟩,⟨27,false,false,[]⟩,⟨28,false,false,[]⟩,⟨29,false,true,[]⟩,⟨30,false,true,[]⟩,⟨31,false,false,[]⟩,⟨32,false,true,[]⟩,⟨33,true,false,[29]⟩,⟨34,false,true,[]⟩,⟨35,false,true,[]⟩,⟨36,false,false,[]⟩,⟨37,false,false,[]⟩]:List Stp)=tl;(try simp (maxSteps:=2000000) only [aE,rL,rD,rB,reduceIte,af,Chk,un,t1,t4,dz,iJ,aH,l2,l3,hz,hnz,aV,bE,aK r1,aK r2,aK r3,aJ r4,aK r5])
        refine kL [(111,.bool true),(1,.ptr h.bX 0),(4,.ptr hk.bX 0),(60,c.ce),(61,.int .i64 o.ce.length),(62,.int .i64 j)] ?_ ?_
        ·simp only [ak];(try simp only [aE,rL,rD,rB,reduceIte,t1,t4,t60,t61,t62]);exact ⟨by trivial,by trivial,by trivial,by trivial,by trivial,by trivial⟩
        clear t1 t4 t60 t61 t62
        intro ts2 hts;simp only [ak] at hts;obtain ⟨t111,t1,t4,t60,t61,t62⟩:=hts;subst htl;(try simp (maxSteps:=2000000) only [aE,rL,rD,rB,reduceIte,af,Chk,un,t111,t1,t4,dz,iJ,aH,l2,l3]);refine ⟨_,rfl,?_,?_,?_,?_,?_,?_,Fix.refl _ _⟩
        all_goals (try simp only [aE,rL,rD,rB,reduceIte,t1,t4,t60,t61,t62])
        have hB:(x.sec<0∨2<x.sec∨x.off<0∨cU o x.sec<x.off):=by omega
        rw [aJ hB]
      ·have r6:(0:Int)<x.sec:=by omega
       have hlen:∀h',lenB (E g) h' 27 (if x.sec=1 then c.code else c.data)=some (.int .i64 (cU o x.sec)):=by
        intro h';unfold cU
        by_cases q:x.sec=1
        ·rw [if_pos q,if_pos q];exact obj.code.len
        ·rw [if_neg q,if_neg q,if_pos (by omega)];exact obj.data.len
       ((repeat refine WC.seq ?_);refine WC.draw (plans:=jI) (by kernel_rfl) ?_;simp only [jI,ak])
       generalize htl:([⟨24,false,false,[]⟩,⟨25,false,true,[]⟩,⟨26,false,true,[]⟩,⟨27,false,false,[]⟩,⟨28,false,false,[]⟩,⟨29,false,true,[]⟩,⟨30,false,true,[]⟩,⟨31,false,false,[]⟩,⟨32,false,true,[]⟩,⟨33,true,false,[29]⟩,⟨34,false,true,[]⟩,⟨35,false,true,[]⟩,⟨36,false,false,[]⟩,⟨37,false,false,[]⟩]:List Stp)=tl;(try simp (maxSteps:=2000000) only [aE,rL,rD,rB,reduceIte,af,Chk,un,t1,t4,dz,iJ,aH,l2,l3,hz,hnz,aK r1,aK r2,aK r3,aK r4])
       refine kL [(111,.bool false),(1,.ptr h.bX 0),(4,.ptr hk.bX 0),(60,c.ce),(61,.int .i64 o.ce.length),(62,.int .i64 j)] ?_ ?_
       ·simp only [ak];(try simp only [aE,rL,rD,rB,reduceIte,t1,t4,t60,t61,t62]);exact ⟨by trivial,by trivial,by trivial,by trivial,by trivial,by trivial⟩
       intro ts2 hts;simp only [ak] at hts;obtain ⟨t111,t1,t4,t60,t61,t62⟩:=hts;subst htl;(try simp (maxSteps:=2000000) only [aE,rL,rD,rB,reduceIte,af,Chk,un,t111,t1,t4,dz,iJ,aH,l2,l3,lo,aJ r6]);refine sC.mono fun v h8 ⟨e8,f8⟩=>?_;subst e8;have l2':cx (E g) h8 3 (.ptr hk.bX 1)=some (.int .i64 x.sec):=(bj.fix f8).at ty3 rfl 1;have l3':cx (E g) h8 2 (.ptr hk.bX 2)=some (.int .i64 x.off):=(bj.fix f8).at ty2 rfl 2
       (try simp (maxSteps:=2000000) only [aE,rL,rD,rB,reduceIte,af,Chk,un,t111,t1,t4,dz,iJ,aH,l2',l3',hlen,hz,hnz,aK r1,aK r2,aK r3,aK r4,aJ r6]);refine ⟨_,rfl,?_,?_,?_,?_,?_,?_,f8⟩
       all_goals (try simp only [aE,rL,rD,rB,reduceIte,t1,t4,t60,t61,t62])
       have hB:(x.sec<0∨2<x.sec∨x.off<0∨cU o x.sec<x.off)↔cU o x.sec<x.off:=by omega
       simp only [hB]
     rintro e fr h8 ⟨rfl,ts,rfl,t125,t1,t4,t60,t61,t62,f8⟩
     have l2:cx (E g) h8 3 (.ptr hk.bX 1)=some (.int .i64 x.sec):=(bj.fix f8).at ty3 rfl 1;have l4:cx (E g) h8 4 (.ptr hk.bX 3)=some (.bool x.cn):=(bj.fix f8).at ty4 rfl 3;have l5:cx (E g) h8 4 (.ptr hk.bX 4)=some (.bool x.cm):=(bj.fix f8).at ty4 rfl 4;have K8:cH h h8:=Kj.trans (f8.sub fun x hx=>by have:=Kj.bX;omega);have F8:Fix (·<h1.bX) h1 h8:=Fj.trans (f8.sub fun x hx=>by omega);refine az ?_;refine aw ?_
     by_cases hB:(x.sec<0∨2<x.sec∨x.off<0∨cU o x.sec<x.off)
     ·rw [aJ hB] at t125;refine WC.cond (b:=true) (by (try simp only [aE,rL,rD,rB,reduceIte,t125]);(try simp);(try omega)) ?_;refine au ?_;refine WC.ret ?_;refine az ?_;rw [hS,if_pos hB,dH (by decide)] at hr;exact ⟨by rw [hce,←hr,dH (by decide)]<;>rfl,K8⟩
     rw [aK hB] at t125;rw [hS,if_neg hB] at hr;refine WC.cond (b:=false) (by (try simp only [aE,rL,rD,rB,reduceIte,t125]);(try simp);(try omega)) (WC.skip ?_);refine az ?_
     cases hg:x.cn with
     | true =>
      rw [hg] at l4;rw [if_neg (by simp [hg]),jy rfl] at hr
      by_cases s1:x.sec=0
      all_goals cases s2:x.cm
      all_goals rw [s2] at l5
      all_goals ((repeat refine WC.seq ?_);refine WC.run ?_)
      all_goals (first|(try simp only [aE,rL,rD,rB,reduceIte,un,t4,dz,eC,fH,aH,l2,l4,l5,hz,cY,aV,aJ s1])|skip)
      all_goals (first|(try simp only [aE,rL,rD,rB,reduceIte,un,t4,dz,eC,fH,aH,l2,l4,l5,hz,cY,aV,aK s1])|skip)
      all_goals (repeat refine WC.seq ?_)
      all_goals refine aF (WC.skip ?_)
      all_goals (try simp only [aE,rL,rD,rB,reduceIte])
      all_goals ((repeat refine WC.seq ?_);refine WC.run ?_)
      all_goals (try simp only [aE,rL,rD,rB,reduceIte,t62,ct])
      all_goals refine ⟨_,?_,_,j+1,rfl,F8,rfl,by omega,?_⟩
      all_goals first|omega|skip
      all_goals (try simp only [aE,rL,rD,rB,reduceIte,t1,t60,t61])
      all_goals refine ⟨aD,aD,aD,?_,?_⟩
      all_goals first
       | (rw [bW hlt,hx];exact hr)
       | (rw [cy (by omega) (by omega)];rfl)
     | false =>
      rw [hg] at l4
      rcases bz (x.sec=0) with s1|s1
      ·refine ap ?_;(try simp only [aE,rL,rD,rB,reduceIte,un,t4,dz,eC,fH,aH,l2,l4,l5,hz,cY,bE,aJ s1]);refine aw ?_;refine aG ?_;refine au ?_;refine WC.ret ?_;refine az ?_;rw [if_pos (by simp [hg,s1]),dH (by decide)] at hr;exact ⟨by rw [hce,←hr,dH (by decide)]<;>rfl,K8⟩
      rcases bg (x.cm) with s2|s2
      ·refine ap ?_;(try simp only [aE,rL,rD,rB,reduceIte,un,t4,dz,eC,fH,aH,l2,l4,l5,hz,cY,bE,aK s1,s2]);refine aw ?_;refine aG ?_;refine au ?_;refine WC.ret ?_;refine az ?_;rw [if_pos (by simp [hg,s1,s2]),dH (by decide)] at hr;exact ⟨by rw [hce,←hr,dH (by decide)]<;>rfl,K8⟩
      rw [if_neg (by simp [hg,s1,s2]),jy rfl] at hr;refine ap ?_;(try simp only [aE,rL,rD,rB,reduceIte,un,t4,dz,eC,fH,aH,l2,l4,l5,hz,cY,bE,aK s1,s2]);refine aw ?_;refine aF (WC.skip ?_);refine ax ?_;(try simp only [aE,rL,rD,rB,reduceIte,t62,ct])
      refine ⟨_,?_,_,j+1,rfl,F8,rfl,by omega,?_⟩
      ·omega
      (try simp only [aE,rL,rD,rB,reduceIte,t1,t60,t61])
      refine ⟨aD,aD,aD,?_,?_⟩
      ·rw [cy (by omega) (by omega)];rfl
      ·rw [bW hlt,hx];exact hr
   all_goals (try simp only [aE,rL,rD,rB,reduceIte,t1,t60,t61,t62])
   all_goals (first|trivial|rfl|simp)
  ·refine aF (WC.exit ?_);have:i=o.ce.length:=by omega
   subst this;rw [bU,lH] at hr;rw [jy hr.symm] at hce;refine ax ?_;(try simp only [aE,rL,rD,rB,reduceIte,t1,iv,aH,bk.at gt rfl,Sl.lenB obk.ci gt rfl]);refine ao ?_
   refine WC.while (fun m fr hm=>∃ts i,fr=⟨ts,291,[],23,none⟩∧Fix (·<hk.bX) hk hm∧m=o.ci.length - i∧i≤o.ci.length∧ts.get 1=some (.ptr h.bX 0)∧ts.get 145=some c.ci∧ts.get 146=some (.int .i64 o.ci.length)∧ts.get 147=some (.int .i64 i)∧nX o (o.ci.take i) (o.ci.drop i)=nX o [] o.ci) ?_ ⟨_,0,rfl,Fix.refl _ _,rfl,by omega,?_,?_,?_,?_,rfl⟩
   ·rintro m fr hm ⟨ts,i,rfl,fm,rfl,hi,t1,t145,t146,t147,hr⟩
    have xm:=fm.bX;have bm:=bk.fix fm;have obm:=(obk.fix fm (fun x hx=>hx)).up (K':=(·<hm.bX)) (fun x hx=>by omega);have Km:cH h hm:=Fk0.trans (fm.sub fun x hx=>by omega);refine ap ?_;(try simp only [aE,rL,rD,rB,reduceIte,t146,t147]);refine aw ?_
    by_cases hlt:i<o.ci.length
    ·refine aG (WC.skip ?_);refine az ?_;obtain ⟨p,p1,p2⟩:=obm.ci.at (fun _=>rfl) gt rfl ii rfl (by decide) rfl hlt;have p2:=p2 hm fun _ _ _ _ _=>rfl;rw [List.drop_eq_getElem_cons hlt,nX] at hr;generalize hx:o.ci[i]=r at *;refine ao ?_;refine ap ?_;(try simp only [aE,rL,rD,rB,reduceIte,t145,t147,p1,p2]);refine cz ii ?_;intro h5 b5 n5 f5;refine az ?_;refine cq b5 ii rfl (by decide) rfl ?_;intro h6 b6 n6 f6
     have b6:Has h6 hm.bX [i64 r.sec,i64 r.off,i64 r.kind,.str r.sym,i64 r.add]:=b6;have Fm:Fix (·<hm.bX) hm h6:=⟨by omega,fun c hc=>by rw [f6.ca c (by omega),f5.ca c hc]⟩;have F6:Fix (·<hk.bX) hk h6:=fm.trans (Fm.sub fun x hx=>by omega);have K6:cH h h6:=Km.trans (Fm.sub fun x hx=>by have:=Km.bX;omega);have bb:=bm.fix Fm;have ob6:=(obm.fix Fm (fun x hx=>hx)).up (K':=(·<h6.bX)) (fun x hx=>by omega);have l1:cx (E g) h6 3 (.ptr hm.bX 0)=some (.int .i64 r.sec):=b6.at ty3 rfl 0
     have l2:cx (E g) h6 2 (.ptr hm.bX 1)=some (.int .i64 r.off):=b6.at ty2 rfl 1;have l5:cx (E g) h6 2 (.ptr hm.bX 4)=some (.int .i64 r.add):=b6.at ty2 rfl 4;have lo:cx (E g) h6 70 (.ptr h.bX 0)=some (.agg (c.cells o)):=bb.agg eP rfl (o:=0) (by show 0+7≤7;decide);have hsl:0≤cU o r.sec∧cU o r.sec≤16384:=by unfold cU;split<;>(try split)<;>omega
     refine az ?_;refine aw ?_
     refine WC.mono (Q:=fun e fr h'=>e=.normal∧∃ts',fr=⟨ts',291,[],23,none⟩∧ts'.get 190=some (.bool (decide (r.sec<1∨2<r.sec∨r.off<0∨cU o r.sec - 4<r.off∨r.add < -2147483648∨2147483648<r.add)))∧ts'.get 1=some (.ptr h.bX 0)∧ts'.get 8=some (.int .i64 i)∧ts'.get 9=some (.ptr hm.bX 0)∧ts'.get 145=some c.ci∧ts'.get 146=some (.int .i64 o.ci.length)∧ts'.get 147=some (.int .i64 i)∧cH h6 h') ?_ ?_
     ·skip
      rcases bz (r.sec<1) with r1|r1
      ·((repeat refine WC.seq ?_);refine WC.draw (plans:=kR) (by kernel_rfl) ?_;simp only [kR,ak])
       (try simp (maxSteps:=2000000) only [aE,rL,rD,rB,reduceIte,af,Chk,un,t1,je,jd,jw,aH,l1,l2,l5,aJ r1]);refine ⟨_,rfl,?_,?_,?_,?_,?_,?_,?_,Fix.refl _ _⟩
       all_goals (try simp only [aE,rL,rD,rB,reduceIte,t1,t145,t146,t147])
       have hB:(r.sec<1∨2<r.sec∨r.off<0∨cU o r.sec - 4<r.off∨r.add < -2147483648∨2147483648<r.add):=by omega
       rw [aJ hB]
      rcases bz ((2:Int)<r.sec) with r2|r2
      ·((repeat refine WC.seq ?_);refine WC.draw (plans:=kR) (by kernel_rfl) ?_;simp only [kR,ak])
       (try simp (maxSteps:=2000000) only [aE,rL,rD,rB,reduceIte,af,Chk,un,t1,je,jd,jw,aH,l1,l2,l5,aK r1,aJ r2]);refine ⟨_,rfl,?_,?_,?_,?_,?_,?_,?_,Fix.refl _ _⟩
       all_goals (try simp only [aE,rL,rD,rB,reduceIte,t1,t145,t146,t147])
       have hB:(r.sec<1∨2<r.sec∨r.off<0∨cU o r.sec - 4<r.off∨r.add < -2147483648∨2147483648<r.add):=by omega
       rw [aJ hB]
      rcases bz (r.off<0) with r3|r3
      ·((repeat refine WC.seq ?_);refine WC.draw (plans:=kR) (by kernel_rfl) ?_;simp only [kR,ak])
       (try simp (maxSteps:=2000000) only [aE,rL,rD,rB,reduceIte,af,Chk,un,t1,je,jd,jw,aH,l1,l2,l5,aK r1,aK r2,aJ r3]);refine ⟨_,rfl,?_,?_,?_,?_,?_,?_,?_,Fix.refl _ _⟩
       all_goals (try simp only [aE,rL,rD,rB,reduceIte,t1,t145,t146,t147])
       have hB:(r.sec<1∨2<r.sec∨r.off<0∨cU o r.sec - 4<r.off∨r.add < -2147483648∨2147483648<r.add):=by omega
       rw [aJ hB]
      rcases bz ((16384:Int)<r.off) with r4|r4
      ·((repeat refine WC.seq ?_);refine WC.draw (plans:=kR) (by kernel_rfl) ?_;simp only [kR,ak])
       (try simp (maxSteps:=2000000) only [aE,rL,rD,rB,reduceIte,af,Chk,un,t1,je,jd,jw,aH,l1,l2,l5,aK r1,aK r2,aK r3,aJ r4]);refine ⟨_,rfl,?_,?_,?_,?_,?_,?_,?_,Fix.refl _ _⟩
       all_goals (try simp only [aE,rL,rD,rB,reduceIte,t1,t145,t146,t147])
       have hB:(r.sec<1∨2<r.sec∨r.off<0∨cU o r.sec - 4<r.off∨r.add < -2147483648∨2147483648<r.add):=by omega
       rw [aJ hB]
      have hw:IntKind.i64.wrap (r.off+4)=r.off+4:=cy (by omega) (by omega)
      have hlen:∀h',lenB (E g) h' 27 (if r.sec=1 then c.code else c.data)=some (.int .i64 (cU o r.sec)):=by
       intro h';unfold cU
       by_cases q:r.sec=1
       ·rw [if_pos q,if_pos q];exact ob6.code.len
       ·rw [if_neg q,if_neg q,if_pos (by omega)];exact ob6.data.len
      ((repeat refine WC.seq ?_);refine WC.draw (plans:=kR) (by kernel_rfl) ?_;simp only [kR,ak])
      generalize htl:([⟨19,false,false,[]⟩,⟨20,false,true,[]⟩,⟨21,false,true,[]⟩,⟨22,false,true,[]⟩,⟨23,false,false,[]⟩,⟨24,false,true,[]⟩,⟨25,true,false,[21,20]⟩,⟨26,false,true,[]⟩,⟨27,false,true,[]⟩,⟨28,false,false,[]⟩,⟨29,false,false,[]⟩,⟨30,false,false,[]⟩,⟨31,false,true,[]⟩,⟨32,false,true,[]⟩,⟨33,false,false,[]⟩,⟨34,false,false,[]⟩,⟨35,false,false,[]⟩,⟨36,false,true,[]⟩,⟨37,false,true,[]⟩,⟨38,false,false,[]⟩]:List Stp)=tl;(try simp (maxSteps:=2000000) only [aE,rL,rD,rB,reduceIte,af,Chk,un,t1,je,jd,jw,aH,l1,l2,l5,aK r1,aK r2,aK r3,aK r4])
      refine kL [(170,.bool false),(1,.ptr h.bX 0),(8,.int .i64 i),(9,.ptr hm.bX 0),(145,c.ci),(146,.int .i64 o.ci.length),(147,.int .i64 i)] ?_ ?_
      ·simp only [ak];(try simp only [aE,rL,rD,rB,reduceIte,t1,t145,t146,t147]);exact ⟨by trivial,by trivial,by trivial,by trivial,by trivial,by trivial,by trivial⟩
      clear t1 t145 t146 t147
      intro ts2 hts;simp only [ak] at hts;obtain ⟨t170,t1,t8,t9,t145,t146,t147⟩:=hts;subst htl;(try simp (maxSteps:=2000000) only [aE,rL,rD,rB,reduceIte,af,Chk,un,t170,t1,t9,je,jd,jw,aH,l1,l2,l5,lo,ct,hw]);refine sC.mono fun v h8 ⟨e8,f8⟩=>?_;subst e8;have l2':cx (E g) h8 2 (.ptr hm.bX 1)=some (.int .i64 r.off):=(b6.fix f8).at ty2 rfl 1;have l5':cx (E g) h8 2 (.ptr hm.bX 4)=some (.int .i64 r.add):=(b6.fix f8).at ty2 rfl 4
      rcases bz (cU o r.sec<r.off+4) with r5|r5
      ·(try simp (maxSteps:=2000000) only [aE,rL,rD,rB,reduceIte,af,Chk,un,t170,t1,t9,je,jd,jw,aH,l2',l5',hlen,ct,hw,aJ r5]);refine ⟨_,rfl,?_,?_,?_,?_,?_,?_,?_,f8⟩
       all_goals (try simp only [aE,rL,rD,rB,reduceIte,t1,t8,t9,t145,t146,t147])
       have hB:(r.sec<1∨2<r.sec∨r.off<0∨cU o r.sec - 4<r.off∨r.add < -2147483648∨2147483648<r.add):=by omega
       rw [aJ hB]
      rcases bz (r.add < -2147483648) with r6|r6
      ·(try simp (maxSteps:=2000000) only [aE,rL,rD,rB,reduceIte,af,Chk,un,t170,t1,t9,je,jd,jw,aH,l2',l5',hlen,ct,hw,aK r5,aJ r6]);refine ⟨_,rfl,?_,?_,?_,?_,?_,?_,?_,f8⟩
       all_goals (try simp only [aE,rL,rD,rB,reduceIte,t1,t8,t9,t145,t146,t147])
       have hB:(r.sec<1∨2<r.sec∨r.off<0∨cU o r.sec - 4<r.off∨r.add < -2147483648∨2147483648<r.add):=by omega
       rw [aJ hB]
      rcases bz ((2147483648:Int)<r.add) with r7|r7
      ·(try simp (maxSteps:=2000000) only [aE,rL,rD,rB,reduceIte,af,Chk,un,t170,t1,t9,je,jd,jw,aH,l2',l5',hlen,ct,hw,aK r5,aK r6,aJ r7]);refine ⟨_,rfl,?_,?_,?_,?_,?_,?_,?_,f8⟩
       all_goals (try simp only [aE,rL,rD,rB,reduceIte,t1,t8,t9,t145,t146,t147])
       have hB:(r.sec<1∨2<r.sec∨r.off<0∨cU o r.sec - 4<r.off∨r.add < -2147483648∨2147483648<r.add):=by omega
       rw [aJ hB]
      (try simp (maxSteps:=2000000) only [aE,rL,rD,rB,reduceIte,af,Chk,un,t170,t1,t9,je,jd,jw,aH,l2',l5',hlen,ct,hw,aK r5,aK r6,aK r7]);refine ⟨_,rfl,?_,?_,?_,?_,?_,?_,?_,f8⟩
      all_goals (try simp only [aE,rL,rD,rB,reduceIte,t1,t8,t9,t145,t146,t147])
      have hB:¬(r.sec<1∨2<r.sec∨r.off<0∨cU o r.sec - 4<r.off∨r.add < -2147483648∨2147483648<r.add):=by omega
      rw [aK hB]
     rintro e fr h8 ⟨rfl,ts,rfl,t190,t1,t8,t9,t145,t146,t147,f8⟩
     have b8:=b6.fix f8;have bb8:=bb.fix f8;have ob8:=(ob6.fix f8 (fun x hx=>hx)).up (K':=(·<h8.bX)) (fun x hx=>by have:=f8.bX;omega);have l3:cx (E g) h8 3 (.ptr hm.bX 2)=some (.int .i64 r.kind):=b8.at ty3 rfl 2;have l4:cx (E g) h8 9 (.ptr hm.bX 3)=some (.str r.sym):=b8.at ty9 rfl 3;have lo8:cx (E g) h8 70 (.ptr h.bX 0)=some (.agg (c.cells o)):=bb8.agg eP rfl (o:=0) (by show 0+7≤7;decide);have K8:cH h h8:=K6.trans (f8.sub fun x hx=>by have:=K6.bX;omega)
     have F8:Fix (·<hk.bX) hk h8:=F6.trans (f8.sub fun x hx=>by have:=F6.bX;omega);refine az ?_;refine aw ?_
     by_cases hB:(r.sec<1∨2<r.sec∨r.off<0∨cU o r.sec - 4<r.off∨r.add < -2147483648∨2147483648<r.add)
     ·rw [aJ hB] at t190;refine WC.cond (b:=true) (by (try simp only [aE,rL,rD,rB,reduceIte,t190]);(try simp);(try omega)) ?_;refine au ?_;refine WC.ret ?_;refine az ?_;rw [sH,if_pos hB,dH (by decide)] at hr;exact ⟨by rw [hce,←hr,dH (by decide)]<;>rfl,K8⟩
     rw [aK hB] at t190;rw [sH,if_neg hB] at hr;refine WC.cond (b:=false) (by (try simp only [aE,rL,rD,rB,reduceIte,t190]);(try simp);(try omega)) (WC.skip ?_);refine az ?_
     rcases bz (r.kind<0) with s1|s1
     ·refine ap ?_;(try simp only [aE,rL,rD,rB,reduceIte,un,t9,jc,aH,l3,aJ s1]);refine aw ?_;refine aG ?_;refine au ?_;refine WC.ret ?_;refine az ?_;rw [if_pos (by simp [s1]),dH (by decide)] at hr;exact ⟨by rw [hce,←hr,dH (by decide)]<;>rfl,K8⟩
     rcases bz ((3:Int)≤r.kind) with s2|s2
     ·refine ap ?_;(try simp only [aE,rL,rD,rB,reduceIte,un,t9,jc,aH,l3,aK s1,aJ s2]);refine aw ?_;refine aG ?_;refine au ?_;refine WC.ret ?_;refine az ?_;rw [if_pos (by simp [s1,s2]),dH (by decide)] at hr;exact ⟨by rw [hce,←hr,dH (by decide)]<;>rfl,K8⟩
     rw [if_neg (by simp only [s1,s2,or_self,not_false_iff])] at hr;refine ap ?_;(try simp only [aE,rL,rD,rB,reduceIte,un,t9,jc,aH,l3,aK s1,aK s2]);refine aw ?_;refine aF (WC.skip ?_);refine ax ?_;(try simp only [aE,rL,rD,rB,reduceIte,t1,t9,oo,aH,l4,lo8]);refine (kC ob8 fs).mono fun v h9 ⟨e9,f9⟩=>?_;subst e9;refine az ?_;refine cz eg ?_;intro h10 b10 n10 f10;refine az ?_;refine cq b10 eg rfl (by decide) rfl ?_
     intro h11 b11 n11 f11;refine az ?_;have F11:Fix (·<h8.bX) h8 h11:=⟨by have:=f9.bX;omega,fun c hc=>by have:=f9.bX;rw [f11.ca c (by omega),f10.ca c (by omega),f9.ca c hc]⟩;have x11:=F11.bX;have x8:=f8.bX;have b11':=b8.fix F11;have bb11:=bb8.fix F11;have ob11:=(ob8.fix F11 (fun x hx=>hx)).up (K':=(·<h11.bX)) (fun x hx=>by omega);have K11:cH h h11:=K8.trans (F11.sub fun x hx=>by have:=K8.bX;omega)
     have FF:Fix (·<hk.bX) hk h11:=F8.trans (F11.sub fun x hx=>by have:=F8.bX;omega);refine ap ?_;(try simp only [aE,rL,rD,rB,reduceIte,cY]);refine aw ?_
     cases hs:fg r.sym o.ce with
     | false =>
      refine WC.cond (b:=true) (by (try simp only [aE,rL,rD,rB,reduceIte,hs]);(try simp);(try omega)) ?_;refine au ?_;refine WC.ret ?_;refine az ?_;rw [hs,if_pos rfl,dH (by decide)] at hr;exact ⟨by rw [hce,←hr,dH (by decide)]<;>rfl,K11⟩
     | true =>
      refine WC.cond (b:=false) (by (try simp only [aE,rL,rD,rB,reduceIte,hs]);(try simp);(try omega)) (WC.skip ?_);refine az ?_;rw [hs,if_neg (by simp)] at hr;obtain ⟨s',q1,q2,q3⟩:=Rcs.upto ob11.ci (fun _=>rfl) gt rfl ii rfl (n:=i) (by omega);have hll:(o.ci.take i).length=i:=by simp;omega
      refine ap ?_;(try simp only [aE,rL,rD,rB,reduceIte,t1,t8,iv,aH,bb11.at gt rfl,q1,Sl.lenB q2 gt rfl,hll]);refine ao ?_
      refine WC.while (fun m fr hj=>∃ts j,fr=⟨ts,291,[],23,none⟩∧Fix (·<h11.bX) h11 hj∧m=i - j∧j≤i∧ts.get 1=some (.ptr h.bX 0)∧ts.get 9=some (.ptr hm.bX 0)∧ts.get 145=some c.ci∧ts.get 146=some (.int .i64 o.ci.length)∧ts.get 147=some (.int .i64 i)∧ts.get 211=some s'∧ts.get 212=some (.int .i64 i)∧ts.get 213=some (.int .i64 j)∧((o.ci.take i).take j).any (j4 r)=false) ?_ ⟨_,0,rfl,Fix.refl _ _,rfl,by omega,?_,?_,?_,?_,?_,?_,?_,?_,rfl⟩
      ·rintro m fr hj ⟨ts,j,rfl,fj,rfl,hji,t1,t9,t145,t146,t147,t211,t212,t213,hno⟩
       have xj:=fj.bX;have Kj:cH h hj:=K11.trans (fj.sub fun x hx=>by have:=K11.bX;omega);have Fj:Fix (·<hk.bX) hk hj:=FF.trans (fj.sub fun x hx=>by have:=FF.bX;omega);refine ap ?_;(try simp only [aE,rL,rD,rB,reduceIte,t212,t213]);refine aw ?_
       by_cases hjt:j<i
       ·refine aG (WC.skip ?_);refine az ?_;have hjl:j<(o.ci.take i).length:=by omega
        obtain ⟨p,p1,p2⟩:=q2.at (fun _=>rfl) gt rfl ii rfl (by decide) rfl hjl;have p2:=p2 hj fun b o m c e=>fj.ca b (by have:=q3 _ ob11.inR _ _ _ _ e;omega);generalize hy:(o.ci.take i)[j]=y at *;refine ao ?_;refine ap ?_;(try simp only [aE,rL,rD,rB,reduceIte,t211,t213,p1,p2]);refine cz ii ?_;intro h12 b12 n12 f12;refine az ?_;refine cq b12 ii rfl (by decide) rfl ?_;intro h13 b13 n13 f13;have b13:Has h13 hj.bX (oY y):=b13
        have Fk9:Fix (·<hj.bX) hj h13:=⟨by omega,fun c hc=>by rw [f13.ca c (by omega),f12.ca c hc]⟩;have br:=(b11'.fix fj).fix Fk9;have d0:cx (E g) h13 3 (.ptr hj.bX 0)=some (.int .i64 y.sec):=b13.at ty3 rfl 0;have d1:cx (E g) h13 2 (.ptr hj.bX 1)=some (.int .i64 y.off):=b13.at ty2 rfl 1;have e0:cx (E g) h13 3 (.ptr hm.bX 0)=some (.int .i64 r.sec):=br.at ty3 rfl 0;have e1:cx (E g) h13 2 (.ptr hm.bX 1)=some (.int .i64 r.off):=br.at ty2 rfl 1
        refine az ?_;refine aw ?_
        refine WC.mono (Q:=fun e fr h'=>e=.normal∧h'=h13∧∃ts',fr=⟨ts',291,[],23,none⟩∧ts'.get 237=some (.bool (j4 r y))∧ts'.get 1=some (.ptr h.bX 0)∧ts'.get 9=some (.ptr hm.bX 0)∧ts'.get 145=some c.ci∧ts'.get 146=some (.int .i64 o.ci.length)∧ts'.get 147=some (.int .i64 i)∧ts'.get 211=some s'∧ts'.get 212=some (.int .i64 i)∧ts'.get 213=some (.int .i64 j)) ?_ ?_
        ·skip
         rcases (bz (y.sec=r.sec)).symm with w1|w1
         ·refine ap ?_;(try simp only [aE,rL,rD,rB,reduceIte,un,t9,je,jd,aH,d0,d1,e0,e1,ct,rE,aK w1]);refine ⟨aD,aD,_,rfl,?_,?_,?_,?_,?_,?_,?_,?_,?_⟩
          all_goals (try simp only [aE,rL,rD,rB,reduceIte,t1,t9,t145,t146,t147,t211,t212,t213])
          simp [j4,w1]
         rcases (bz (y.off<IntKind.i64.wrap (r.off+4))).symm with w2|w2
         ·refine ap ?_;(try simp only [aE,rL,rD,rB,reduceIte,un,t9,je,jd,aH,d0,d1,e0,e1,ct,rE,aJ w1,aK w2]);refine ⟨aD,aD,_,rfl,?_,?_,?_,?_,?_,?_,?_,?_,?_⟩
          all_goals (try simp only [aE,rL,rD,rB,reduceIte,t1,t9,t145,t146,t147,t211,t212,t213])
          simp [j4,w1,w2]
         refine ap ?_;(try simp only [aE,rL,rD,rB,reduceIte,un,t9,je,jd,aH,d0,d1,e0,e1,ct,rE,aJ w1,aJ w2]);refine ⟨aD,aD,_,rfl,?_,?_,?_,?_,?_,?_,?_,?_,?_⟩
         all_goals (try simp only [aE,rL,rD,rB,reduceIte,t1,t9,t145,t146,t147,t211,t212,t213])
         simp [j4,w1,w2]
        rintro e fr hh ⟨rfl,rfl,ts,rfl,t237,t1,t9,t145,t146,t147,t211,t212,t213⟩
        refine az ?_;refine aw ?_
        cases hb:j4 r y with
        | true =>
         rw [hb] at t237;refine WC.cond (b:=true) (by (try simp only [aE,rL,rD,rB,reduceIte,t237]);(try simp);(try omega)) ?_;refine au ?_;refine WC.ret ?_;refine az ?_
         have ht:(o.ci.take i).any (j4 r)=true:=by
          rw [List.any_eq_true];exact ⟨_,aP hjl,by rw [hy];exact hb⟩
         rw [ht,if_pos rfl,dH (by decide)] at hr;exact ⟨by rw [hce,←hr,dH (by decide)]<;>rfl,Kj.trans (Fk9.sub fun x hx=>by have:=Kj.bX;omega)⟩
        | false =>
         rw [hb] at t237;refine WC.cond (b:=false) (by (try simp only [aE,rL,rD,rB,reduceIte,t237]);(try simp);(try omega)) (WC.skip ?_);refine ax ?_;(try simp only [aE,rL,rD,rB,reduceIte,t213,ct])
         refine ⟨_,?_,_,j+1,rfl,fj.trans (Fk9.sub fun x hx=>by omega),rfl,by omega,?_⟩
         ·omega
         (try simp only [aE,rL,rD,rB,reduceIte,t1,t9,t145,t146,t147,t211,t212])
         refine ⟨aD,aD,aD,aD,aD,aD,aD,?_,?_⟩
         ·rw [cy (by omega) (by omega)];rfl
         ·rw [bW hjl,List.any_append,hno,hy];simp only [List.any_cons,List.any_nil,Bool.or_false,Bool.false_or,hb]
       ·refine aF (WC.exit ?_);have:j=i:=by omega
        subst this;have hno:(o.ci.take j).any (j4 r)=false:=by rwa [bT (by omega)] at hno
        rw [hno,if_neg (by simp),jy rfl] at hr;refine az ?_;rw [show Nat.beq 6 6=true from rfl,cond_true];refine ap ?_;(try simp only [aE,rL,rD,rB,reduceIte,t147,ct])
        refine ⟨_,?_,_,j+1,rfl,Fj,rfl,by omega,?_⟩
        ·omega
        (try simp only [aE,rL,rD,rB,reduceIte,t1,t145,t146])
        refine ⟨aD,aD,aD,?_,?_⟩
        ·rw [cy (by omega) (by omega)];rfl
        ·rw [bW hlt,hx];exact hr
      all_goals (try simp only [aE,rL,rD,rB,reduceIte,t1,t9,t145,t146,t147])
      all_goals (first|trivial|rfl|simp)
    ·refine aF (WC.exit ?_);have:i=o.ci.length:=by omega
     subst this;rw [bU,nX] at hr;rw [jy hr.symm] at hce;refine az ?_;have Km:cH h hm:=Km;refine ap ?_;(try simp only [aE,rL,rD,rB,reduceIte,t1,iW,aH,bm.at cD rfl,Sl.lenB obm.cf cD rfl]);refine ao ?_
     refine WC.while (fun m fr hn=>∃ts i,fr=⟨ts,291,[],23,none⟩∧hn=hm∧m=o.cf.length - i∧i≤o.cf.length∧ts.get 1=some (.ptr h.bX 0)∧ts.get 241=some c.cf∧ts.get 242=some (.int .i64 o.cf.length)∧ts.get 243=some (.int .i64 i)∧lu (o.cf.take i) (o.cf.drop i)=lu [] o.cf) ?_ ⟨_,0,rfl,rfl,rfl,by omega,?_,?_,?_,?_,rfl⟩
     ·rintro m fr hn ⟨ts,i,rfl,rfl,rfl,hi,t1,t241,t242,t243,hr⟩
      refine ap ?_;(try simp only [aE,rL,rD,rB,reduceIte,t242,t243]);refine aw ?_
      by_cases hlt:i<o.cf.length
      ·refine aG (WC.skip ?_);refine az ?_;obtain ⟨p,p1,p2⟩:=obm.cf.at cD rfl ty9 rfl rfl hlt;have p2:=p2 hn fun _ _ _ _ _=>rfl;rw [List.drop_eq_getElem_cons hlt,lu] at hr;generalize hx:o.cf[i]=x at *;refine ao ?_;refine ap ?_;(try simp only [aE,rL,rD,rB,reduceIte,t241,t243,p1,p2]);refine au ?_;refine js.mono fun v h7 ⟨e7,e7'⟩=>?_;subst e7 e7';refine ay ?_;refine aw ?_
       rcases (bz (eR x=0)).symm with hq|hq
       ·refine WC.cond (b:=true) (by (try simp only [aE,rL,rD,rB,reduceIte,hq]);(try simp);(try omega)) ?_;refine au ?_;refine WC.ret ?_;refine az ?_;rw [dH hq] at hr;exact ⟨by rw [hce,←hr,dH hq]<;>rfl,Km⟩
       refine WC.cond (b:=false) (by (try simp only [aE,rL,rD,rB,reduceIte,hq]);(try simp);(try omega)) (WC.skip ?_);refine az ?_;rw [jy hq] at hr;obtain ⟨s',q1,q2,q3,_⟩:=Sl.sub obm.cf cD rfl (cL ty9) (lo:=none) (hi:=some i) (l:=0) (r:=i) rfl rfl (Nat.zero_le _) (by omega);have hll:(o.cf.take i).length=i:=by simp;omega
       have q2:Ss g h7 s' (o.cf.take i):=by
        unfold Ss Vs;rw [hll,List.map_take];simpa using q2
       have q1:eL (E g) 30 c.cf none (some (.int .i64 i)) none=some s':=q1;refine ap ?_;(try simp only [aE,rL,rD,rB,reduceIte,t1,t243,iW,aH,bm.at cD rfl,q1,Sl.lenB q2 cD rfl,hll]);refine ao ?_
       refine WC.while (fun m fr hj=>∃ts j,fr=⟨ts,291,[],23,none⟩∧hj=h7∧m=i - j∧j≤i∧ts.get 1=some (.ptr h.bX 0)∧ts.get 15=some (.str x)∧ts.get 241=some c.cf∧ts.get 242=some (.int .i64 o.cf.length)∧ts.get 243=some (.int .i64 i)∧ts.get 256=some s'∧ts.get 257=some (.int .i64 i)∧ts.get 258=some (.int .i64 j)∧((o.cf.take i).take j).contains x=false) ?_ ⟨_,0,rfl,rfl,rfl,by omega,?_,?_,?_,?_,?_,?_,?_,?_,rfl⟩
       ·rintro m fr hj ⟨ts,j,rfl,rfl,rfl,hji,t1,t15,t241,t242,t243,t256,t257,t258,hno⟩
        refine ap ?_;(try simp only [aE,rL,rD,rB,reduceIte,t257,t258]);refine aw ?_
        by_cases hjt:j<i
        ·refine aG (WC.skip ?_);refine az ?_;have hjl:j<(o.cf.take i).length:=by omega
         obtain ⟨p,p1,p2⟩:=q2.at cD rfl ty9 rfl rfl hjl;have p2:=p2 hj fun _ _ _ _ _=>rfl;generalize hy:(o.cf.take i)[j]=y at *;refine ao ?_;refine ap ?_;(try simp only [aE,rL,rD,rB,reduceIte,t256,t258,p1,p2]);refine ap ?_;(try simp only [aE,rL,rD,rB,reduceIte,t15,gH]);refine aw ?_
         cases hb:(y==x) with
         | true =>
          refine WC.cond (b:=true) (by (try simp only [aE,rL,rD,rB,reduceIte,hb]);(try simp);(try omega)) ?_;refine au ?_;refine WC.ret ?_;refine az ?_
          have ht:(o.cf.take i).contains x=true:=by
           rw [List.contains_iff_mem,←eq_of_beq hb,←hy];exact aP hjl
          rw [ht,if_pos rfl,dH (by decide)] at hr;exact ⟨by rw [hce,←hr,dH (by decide)]<;>rfl,Km⟩
         | false =>
          refine WC.cond (b:=false) (by (try simp only [aE,rL,rD,rB,reduceIte,hb]);(try simp);(try omega)) (WC.skip ?_);refine ax ?_;(try simp only [aE,rL,rD,rB,reduceIte,t258,ct])
          refine ⟨_,?_,_,j+1,rfl,by trivial,rfl,by omega,?_⟩
          ·omega
          (try simp only [aE,rL,rD,rB,reduceIte,t1,t15,t241,t242,t243,t256,t257])
          refine ⟨aD,aD,aD,aD,aD,aD,aD,?_,?_⟩
          ·rw [cy (by omega) (by omega)];rfl
          ·rw [bW hjl,List.contains_eq_any_beq,List.any_append,←List.contains_eq_any_beq,hno,hy];have hb':(x==y)=false:=by rw [←hb];exact BEq.comm
           simp only [List.any_cons,List.any_nil,Bool.or_false,Bool.false_or,hb']
        ·refine aF (WC.exit ?_);have:j=i:=by omega
         subst this;have hno:(o.cf.take j).contains x=false:=by rwa [bT (by omega)] at hno
         rw [hno,if_neg (by simp),jy rfl] at hr;refine az ?_;rw [show Nat.beq 10 10=true from rfl,cond_true];refine ap ?_;(try simp only [aE,rL,rD,rB,reduceIte,t243,ct])
         refine ⟨_,?_,_,j+1,rfl,by trivial,rfl,by omega,?_⟩
         ·omega
         (try simp only [aE,rL,rD,rB,reduceIte,t1,t241,t242])
         refine ⟨aD,aD,aD,?_,?_⟩
         ·rw [cy (by omega) (by omega)];rfl
         ·rw [bW hlt,hx];exact hr
       all_goals (try simp only [aE,rL,rD,rB,reduceIte,t1,t241,t242,t243])
       all_goals (first|trivial|rfl|simp)
      ·refine aF (WC.exit ?_);have:i=o.cf.length:=by omega
       subst this;rw [bU,lu] at hr;rw [jy hr.symm] at hce;refine az ?_;rw [hce,Cm];have lo:cx (E g) hn 70 (.ptr h.bX 0)=some (.agg (c.cells o)):=bm.agg eP rfl (o:=0) (by show 0+7≤7;decide);have xm':=Km.bX;refine ap ?_;(try simp only [aE,rL,rD,rB,reduceIte,t1,lo,hJ,aH,bm.at ty9 rfl]);refine (kC obm fs).mono fun v h7 ⟨e7,f7⟩=>?_;subst e7;refine az ?_;refine cz eg ?_;intro h8 b8 n8 f8;refine az ?_;refine cq b8 eg rfl (by decide) rfl ?_
       intro h9 b9 n9 f9;have b9:Has h9 h7.bX (iD (eD o.entry o.ce)):=b9;generalize hgs:eD o.entry o.ce=s at *;refine az ?_;have x7:=f7.bX;have F9:Fix (·<hn.bX) hn h9:=⟨by omega,fun c hc=>by rw [f9.ca c (by omega),f8.ca c (by omega),f7.ca c hc]⟩;have bn:=bm.fix F9;have K9:cH h h9:=Km.trans (F9.sub fun x hx=>by omega);have lE:cx (E g) h9 9 (.ptr h.bX 6)=some (.str o.entry):=bn.at ty9 rfl 6;have l1:cx (E g) h9 3 (.ptr h7.bX 1)=some (.int .i64 s.sec):=b9.at ty3 rfl 1
       have l3:cx (E g) h9 4 (.ptr h7.bX 3)=some (.bool s.cn):=b9.at ty4 rfl 3;have hbe:(o.entry==([]:List UInt8))=decide (o.entry=[]):=by cases o.entry<;>rfl
       by_cases he:o.entry=[]
       ·refine ap ?_;(try simp only [aE,rL,rD,rB,reduceIte,un,t1,hJ,aH,lE,eT,hbe,aJ he,aV]);refine aw ?_;refine aF (WC.skip ?_);refine ay ?_;refine WC.ret ?_;refine az ?_;exact ⟨by rw [if_neg (by simp [he])]<;>rfl,K9⟩
       rcases (bg (fg o.entry o.ce)).symm with y1|y1
       ·refine ap ?_;(try simp only [aE,rL,rD,rB,reduceIte,un,t1,hJ,dz,eC,aH,lE,l1,l3,eT,cY,hbe,hz,aK he,bE,aV,y1]);refine aw ?_;refine WC.cond (b:=true) (by (try simp only [aE,rL,rD,rB,reduceIte,y1]);(try simp);(try omega)) ?_;refine au ?_;refine WC.ret ?_;refine az ?_;exact ⟨by rw [if_pos (by simp [he,y1])]<;>rfl,K9⟩
       rcases bz (s.sec=0) with y2|y2
       ·refine ap ?_;(try simp only [aE,rL,rD,rB,reduceIte,un,t1,hJ,dz,eC,aH,lE,l1,l3,eT,cY,hbe,hz,aK he,bE,aV,y1,aJ y2]);refine aw ?_;refine WC.cond (b:=true) (by (try simp only [aE,rL,rD,rB,reduceIte,y1,aJ y2]);(try simp);(try omega)) ?_;refine au ?_;refine WC.ret ?_;refine az ?_;exact ⟨by rw [if_pos (by simp [he,y1,y2])]<;>rfl,K9⟩
       rcases (bg (s.cn)).symm with y3|y3
       ·refine ap ?_;(try simp only [aE,rL,rD,rB,reduceIte,un,t1,hJ,dz,eC,aH,lE,l1,l3,eT,cY,hbe,hz,aK he,bE,aV,y1,aK y2,y3]);refine aw ?_;refine WC.cond (b:=true) (by (try simp only [aE,rL,rD,rB,reduceIte,y1,aK y2,y3]);(try simp);(try omega)) ?_;refine au ?_;refine WC.ret ?_;refine az ?_;exact ⟨by rw [if_pos (by simp [he,y1,y2,y3])]<;>rfl,K9⟩
       refine ap ?_;(try simp only [aE,rL,rD,rB,reduceIte,un,t1,hJ,dz,eC,aH,lE,l1,l3,eT,cY,hbe,hz,aK he,bE,aV,y1,aK y2,y3]);refine aw ?_;refine WC.cond (b:=false) (by (try simp only [aE,rL,rD,rB,reduceIte,y1,aK y2,y3]);(try simp);(try omega)) (WC.skip ?_);refine ay ?_;refine WC.ret ?_;refine az ?_;exact ⟨by rw [if_neg (by simp [he,y1,y2,y3])]<;>rfl,K9⟩
     all_goals (try simp only [aE,rL,rD,rB,reduceIte,t1])
     all_goals (first|trivial|rfl|simp)
   all_goals (try simp only [aE,rL,rD,rB,reduceIte,t1])
   all_goals (first|trivial|rfl|simp)
 all_goals (try simp only [aE,rL,rD,rB,reduceIte])
 all_goals (first|trivial|rfl|simp)
end Go.Proofs.OP
