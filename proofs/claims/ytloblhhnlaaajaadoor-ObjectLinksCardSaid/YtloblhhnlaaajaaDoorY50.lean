/- Walks: sameImage. Printed by genr11.py. -/
import Derived.Test.YtloblhhnlaaajaaDoorY46
import Derived.Test.YtloblhhnlaaajaaDoorY49
set_option maxHeartbeats 32000000
set_option maxRecDepth 100000
set_option linter.unusedVariables false
set_option linter.unusedSimpArgs false
set_option linter.defProp false
namespace Go.Proofs.OP
open Go Go.Ev
open Go.Proofs
open Nat renaming reduceLT → rL, reduceEqDiff → rD, reduceBEq → rB
variable {g : T (List V)}
instance:DecidableEq ExpD:=fun a b=>if h:a.name=b.name∧a.cl=b.cl then isTrue (by cases a;cases b;simp at h;simp [h]) else isFalse (by rintro rfl;simp at h)
instance:DecidableEq SlotD:=fun a b=>if h:a.name=b.name∧a.cl=b.cl∧a.bound=b.bound then isTrue (by cases a;cases b;simp at h;simp [h]) else isFalse (by rintro rfl;simp at h)
theorem and2 {p q:Prop} [Decidable p] [Decidable q]:(match (some (decide p):Option Bool) with
  | some true=>(match (some (decide q):Option Bool) with
   | some true=>some true
   | some false=>some false
   | none=>none)
  | some false=>some false
  | none=>none)=some (decide (p∧q)):=by
 by_cases p<;>by_cases q<;>simp [*]
theorem and3 {p q r:Prop} [Decidable p] [Decidable q] [Decidable r]:(match (some (decide p):Option Bool) with
  | some true=>(match (some (decide q):Option Bool) with
   | some true=>(match (some (decide r):Option Bool) with
    | some true=>some true
    | some false=>some false
    | none=>none)
   | some false=>some false
   | none=>none)
  | some false=>some false
  | none=>none)=some (decide (p∧q∧r)):=by
 by_cases p<;>by_cases q<;>by_cases r<;>simp [*]
theorem neq137 {h:H} {c:Bool} {a b:ExpD}:fJ (E g) h c .neq 41 (.agg (nk a)) (.agg (nk b))=some (.bool (decide (a≠b))):=by
 have:eqV (E g) h 41 (.agg (nk a)) (.agg (nk b))=some (decide (a.name=b.name∧a.cl=b.cl)):=by
  simp only [eqV,rJ,JS,show es.contains 41=true from rfl,cond_true];simp only [np,oa,ty9,ty2,TI.agg,cond_false,nk,nth,i64,Fd,Jl,show (("Name":String) == "_")=false from rfl,show (("Address":String) == "_")=false from rfl];exact and2
 simp only [fJ,this,bo]
 congr 2
 have e:(a.name=b.name∧a.cl=b.cl)↔a=b:=⟨fun h=>by cases a;cases b;simp at h;simp [h],by rintro rfl;simp⟩
 by_cases h:a=b
 ·subst h;simp
 ·simp [h,e]
theorem neq138 {h:H} {c:Bool} {a b:SlotD}:fJ (E g) h c .neq 43 (.agg (fU a)) (.agg (fU b))=some (.bool (decide (a≠b))):=by
 have:eqV (E g) h 43 (.agg (fU a)) (.agg (fU b))=some (decide (a.name=b.name∧a.cl=b.cl∧a.bound=b.bound)):=by
  simp only [eqV,lJ,JS,show es.contains 43=true from rfl,cond_true];simp only [np,oa,ty9,ty2,TI.agg,cond_false,fU,nth,i64,Fd,Jl,show (("Name":String) == "_")=false from rfl,show (("Address":String) == "_")=false from rfl,show (("Bound":String) == "_")=false from rfl];exact and3
 simp only [fJ,this,bo]
 congr 2
 have e:(a.name=b.name∧a.cl=b.cl∧a.bound=b.bound)↔a=b:=⟨fun h=>by cases a;cases b;simp at h;simp [h],by rintro rfl;simp⟩
 by_cases h:a=b
 ·subst h;simp
 ·simp [h,e]
theorem Aq {a b:ImgD} (h1:a.base=b.base) (h2:a.bytes=b.bytes) (h3:a.code=b.code) (h4:a.entry=b.entry) (h5:a.cf=b.cf) (h6:a.cg=b.cg) (h7:a.cb=b.cb):a=b:=by
 cases a;cases b;simp at *;simp [*]
theorem Ba {h:H} {c1 c2:Ic} {o1 o2:ImgD} (ob1:Im g h (·<h.bX) c1 o1) (ob2:Im g h (·<h.bX) c2 o2) (fit1:FitsI o1) (fit2:FitsI o2) :
  WF (E g) 19 [.agg (c1.cells o1),.agg (c2.cells o2)] h fun v h'=>(∃r,v=.bool r∧(r=true↔o1=o2))∧cH h h':=by
 have fs:=fit1.cg;have fr:=fit1.cb;have fs2:=fit2.cg;have fr2:=fit2.cb;have fn1:=fit1.cf;have fn2:=fit2.cf;refine WF.enter fn19 rfl ?_;refine au ?_;refine eI (v:=.agg (c1.cells o1)) (by (try simp only [aE,rL,rD,rB,reduceIte])) ?_;intro h1 b1 n1 f1;refine az ?_;have b1:Has h1 h.bX [i64 o1.base,c1.bytes,i64 o1.code,i64 o1.entry,c1.cg,c1.cb,c1.cf]:=b1;refine eI (v:=.agg (c2.cells o2)) (by (try simp only [aE,rL,rD,rB,reduceIte])) ?_
 intro h2 b2 n2 f2;refine az ?_;have b2:Has h2 h1.bX [i64 o2.base,c2.bytes,i64 o2.code,i64 o2.entry,c2.cg,c2.cb,c2.cf]:=b2;have a2:=b1.fix f2;have F2:cH h h2:=f1.trans (f2.sub);have ob1:=(ob1.fix F2 (fun _ h=>h)).up (K':=(·<h2.bX)) (fun _ h=>by omega);have ob2:=(ob2.fix F2 (fun _ h=>h)).up (K':=(·<h2.bX)) (fun _ h=>by omega);refine ap ?_
 rcases bg ((o1.base != o2.base)) with k1|k1
 ·(try simp only [aE,rL,rD,rB,reduceIte,un,i64,cV,dX,ed,eh,cZ,dW,dL,dB,eW,dD,aH,a2.at ty2 rfl,a2.at cM rfl,a2.at cD rfl,b2.at ty2 rfl,b2.at cM rfl,b2.at cD rfl,eS ob1.bytes,eS ob2.bytes,eT,k1]);refine aw ?_;refine aG ?_;refine au ?_;refine WC.ret ?_;refine az ?_;exact ⟨⟨false,rfl,by constructor<;>(intro q;first|(cases q;done)|(subst q;simp at *;done)|(subst q;simp_all;done))⟩,F2⟩
 rcases bg (!(o1.bytes==o2.bytes)) with k2|k2
 ·(try simp only [aE,rL,rD,rB,reduceIte,un,i64,cV,dX,ed,eh,cZ,dW,dL,dB,eW,dD,aH,a2.at ty2 rfl,a2.at cM rfl,a2.at cD rfl,b2.at ty2 rfl,b2.at cM rfl,b2.at cD rfl,eS ob1.bytes,eS ob2.bytes,eT,k1,k2]);refine aw ?_;refine aG ?_;refine au ?_;refine WC.ret ?_;refine az ?_;exact ⟨⟨false,rfl,by constructor<;>(intro q;first|(cases q;done)|(subst q;simp at *;done)|(subst q;simp_all;done))⟩,F2⟩
 rcases bg ((o1.code != o2.code)) with k3|k3
 ·(try simp only [aE,rL,rD,rB,reduceIte,un,i64,cV,dX,ed,eh,cZ,dW,dL,dB,eW,dD,aH,a2.at ty2 rfl,a2.at cM rfl,a2.at cD rfl,b2.at ty2 rfl,b2.at cM rfl,b2.at cD rfl,eS ob1.bytes,eS ob2.bytes,eT,k1,k2,k3]);refine aw ?_;refine aG ?_;refine au ?_;refine WC.ret ?_;refine az ?_;exact ⟨⟨false,rfl,by constructor<;>(intro q;first|(cases q;done)|(subst q;simp at *;done)|(subst q;simp_all;done))⟩,F2⟩
 rcases bg ((o1.entry != o2.entry)) with k4|k4
 ·(try simp only [aE,rL,rD,rB,reduceIte,un,i64,cV,dX,ed,eh,cZ,dW,dL,dB,eW,dD,aH,a2.at ty2 rfl,a2.at cM rfl,a2.at cD rfl,b2.at ty2 rfl,b2.at cM rfl,b2.at cD rfl,eS ob1.bytes,eS ob2.bytes,eT,k1,k2,k3,k4]);refine aw ?_;refine aG ?_;refine au ?_;refine WC.ret ?_;refine az ?_;exact ⟨⟨false,rfl,by constructor<;>(intro q;first|(cases q;done)|(subst q;simp at *;done)|(subst q;simp_all;done))⟩,F2⟩
 (try simp only [aE,rL,rD,rB,reduceIte,un,i64,cV,dX,ed,eh,cZ,dW,dL,dB,eW,dD,aH,a2.at ty2 rfl,a2.at cM rfl,a2.at cD rfl,b2.at ty2 rfl,b2.at cM rfl,b2.at cD rfl,eS ob1.bytes,eS ob2.bytes,eT,k1,k2,k3,k4]);refine (I3 ob1.cf ob2.cf (by omega) (by omega)).mono fun v h' ⟨e,e'⟩=>?_;subst e e'
 rcases bg (!decide (o1.cf=o2.cf)) with k5|k5
 ·(try simp only [aE,rL,rD,rB,reduceIte,un,gE,gC,dE,dx,aH,a2.at ga rfl,a2.at fY rfl,b2.at dC rfl,b2.at dp rfl,Sl.lenB ob1.cg ga rfl,Sl.lenB ob1.cb fY rfl,Sl.lenB ob2.cg dC rfl,Sl.lenB ob2.cb dp rfl,k5]);refine aw ?_;refine aG ?_;refine au ?_;refine WC.ret ?_;refine az ?_;exact ⟨⟨false,rfl,by constructor<;>(intro q;first|(cases q;done)|(subst q;simp at *;done)|(subst q;simp_all;done))⟩,F2⟩
 rcases bg (((o1.cg.length:Int) != (o2.cg.length:Int))) with k6|k6
 ·(try simp only [aE,rL,rD,rB,reduceIte,un,gE,gC,dE,dx,aH,a2.at ga rfl,a2.at fY rfl,b2.at dC rfl,b2.at dp rfl,Sl.lenB ob1.cg ga rfl,Sl.lenB ob1.cb fY rfl,Sl.lenB ob2.cg dC rfl,Sl.lenB ob2.cb dp rfl,k5,k6]);refine aw ?_;refine aG ?_;refine au ?_;refine WC.ret ?_;refine az ?_;exact ⟨⟨false,rfl,by constructor<;>(intro q;first|(cases q;done)|(subst q;simp at *;done)|(subst q;simp_all;done))⟩,F2⟩
 rcases bg (((o1.cb.length:Int) != (o2.cb.length:Int))) with k7|k7
 ·(try simp only [aE,rL,rD,rB,reduceIte,un,gE,gC,dE,dx,aH,a2.at ga rfl,a2.at fY rfl,b2.at dC rfl,b2.at dp rfl,Sl.lenB ob1.cg ga rfl,Sl.lenB ob1.cb fY rfl,Sl.lenB ob2.cg dC rfl,Sl.lenB ob2.cb dp rfl,k5,k6,k7]);refine aw ?_;refine aG ?_;refine au ?_;refine WC.ret ?_;refine az ?_;exact ⟨⟨false,rfl,by constructor<;>(intro q;first|(cases q;done)|(subst q;simp at *;done)|(subst q;simp_all;done))⟩,F2⟩
 (try simp only [aE,rL,rD,rB,reduceIte,un,gE,gC,dE,dx,aH,a2.at ga rfl,a2.at fY rfl,b2.at dC rfl,b2.at dp rfl,Sl.lenB ob1.cg ga rfl,Sl.lenB ob1.cb fY rfl,Sl.lenB ob2.cg dC rfl,Sl.lenB ob2.cb dp rfl,k5,k6,k7]);have lsy:o1.cg.length=o2.cg.length:=by simp at k6;omega
 have lre:o1.cb.length=o2.cb.length:=by simp at k7;omega
 refine aw ?_;refine aF (WC.skip ?_);refine az ?_;have Kq:=F2;have aq:=a2;have bq:=b2;have obq1:=ob1;have obq2:=ob2;refine ap ?_;(try simp only [aE,rL,rD,rB,reduceIte,gE,aH,aq.at ga rfl,Sl.lenB obq1.cg ga rfl]);refine ao ?_
 refine WC.while (fun m fr hh=>∃ts i,fr=⟨ts,95,[],19,none⟩∧Fix (·<h'.bX) h' hh∧m=o1.cg.length - i∧i≤o1.cg.length∧ts.get 2=some (.ptr h.bX 0)∧ts.get 3=some (.ptr h1.bX 0)∧ts.get 64=some c1.cg∧ts.get 65=some (.int .i64 o1.cg.length)∧ts.get 66=some (.int .i64 i)∧o1.cg.take i=o2.cg.take i) ?_ ⟨_,0,rfl,Fix.refl _ _,rfl,by omega,?_,?_,?_,?_,?_,rfl⟩
 ·rintro m fr hh ⟨ts,i,rfl,ff,rfl,hi,t2,t3,ta,tb,tc,he⟩
  have xh:=ff.bX;have Kh:cH h hh:=Kq.trans (ff.sub);have ah:=aq.fix ff;have bh:=bq.fix ff;have oh1:=obq1.fix ff (fun _ h=>h);have oh2:=obq2.fix ff (fun _ h=>h);refine ap ?_;(try simp only [aE,rL,rD,rB,reduceIte,tb,tc]);refine aw ?_
  by_cases hlt:i<o1.cg.length
  ·refine aG (WC.skip ?_);refine az ?_;have hlt':i<o2.cg.length:=by omega
   obtain ⟨p,p1,p2⟩:=oh1.cg.at (fun _=>rfl) ga rfl rJ rfl (by decide) rfl hlt;have p2:=p2 hh fun _ _ _ _ _=>rfl;refine ao ?_;refine ap ?_;(try simp only [aE,rL,rD,rB,reduceIte,ta,tc,p1,p2]);refine cz rJ ?_;intro h5 b5 n5 f5;refine az ?_;refine cq b5 rJ rfl (by decide) rfl ?_;intro h6 b6 n6 f6;have b6:Has h6 hh.bX (nk o1.cg[i]):=b6;have F6:Fix (·<hh.bX) hh h6:=⟨by omega,fun c hc=>by rw [f6.ca c (by omega),f5.ca c (by omega)]⟩
   have o62:=oh2.fix F6 (fun b hb=>by omega);have b62:=bh.fix F6;obtain ⟨q,q1,q2⟩:=o62.cg.at (fun _=>rfl) dC rfl nN rfl (by decide) rfl hlt';have q2:=q2 h6 fun _ _ _ _ _=>rfl;have l6:cx (E g) h6 41 (.ptr hh.bX 0)=some (.agg (nk o1.cg[i])):=b6.agg rJ rfl (show 0+2≤(nk o1.cg[i]).length from aI 2);refine az ?_
   ((repeat refine WC.seq ?_);refine WC.draw (plans:=IP) (by kernel_rfl) ?_;simp only [IP,ak])
   (try simp (maxSteps:=2000000) only [aE,rL,rD,rB,reduceIte,af,Chk,t3,dE,aH,b62.at dC rfl,q1,q2,l6,neq137]);refine aw ?_
   by_cases hc:o1.cg[i]=o2.cg[i]
   ·refine WC.cond (b:=false) (by (try simp only [aE,rL,rD,rB,reduceIte]);simp [hc]) (WC.skip ?_);refine ax ?_;(try simp only [aE,rL,rD,rB,reduceIte,tc,ct])
    refine ⟨_,?_,_,i+1,rfl,⟨by omega,fun b hb=>by rw [F6.ca b (by omega),ff.ca b hb]⟩,rfl,by omega,?_⟩
    ·omega
    (try simp only [aE,rL,rD,rB,reduceIte,t2,t3,ta,tb])
    refine ⟨aD,aD,aD,aD,?_,?_⟩
    ·rw [cy (by omega) (by omega)];rfl
    ·rw [bW hlt,bW hlt',he,hc]
   ·refine WC.cond (b:=true) (by (try simp only [aE,rL,rD,rB,reduceIte]);simp [hc]) ?_;refine au ?_;refine WC.ret ?_;refine az ?_;refine ⟨⟨false,rfl,by constructor<;>(intro q;first|(cases q;done)|(subst q;exact absurd rfl hc))⟩,Kh.trans (F6.sub)⟩
  ·refine aF (WC.exit ?_);have:i=o1.cg.length:=by omega
   subst this;refine az ?_
   have esy:o1.cg=o2.cg:=by
    rw [bv] at he;rw [he,lsy,bv]
   have Kq:=Kh;have aq:=ah;have bq:=bh;have obq1:=oh1.up (K':=(·<hh.bX)) (fun b hb=>by omega);have obq2:=oh2.up (K':=(·<hh.bX)) (fun b hb=>by omega);refine ap ?_;(try simp only [aE,rL,rD,rB,reduceIte,t2,gC,aH,aq.at fY rfl,Sl.lenB obq1.cb fY rfl]);refine ao ?_
   refine WC.while (fun m fr hk=>∃ts i,fr=⟨ts,95,[],19,none⟩∧Fix (·<hh.bX) hh hk∧m=o1.cb.length - i∧i≤o1.cb.length∧ts.get 2=some (.ptr h.bX 0)∧ts.get 3=some (.ptr h1.bX 0)∧ts.get 80=some c1.cb∧ts.get 81=some (.int .i64 o1.cb.length)∧ts.get 82=some (.int .i64 i)∧o1.cb.take i=o2.cb.take i) ?_ ⟨_,0,rfl,Fix.refl _ _,rfl,by omega,?_,?_,?_,?_,?_,rfl⟩
   ·rintro m fr hk ⟨ts,i,rfl,ff,rfl,hi,t2,t3,ta,tb,tc,he⟩
    have xh:=ff.bX;have Kh:cH h hk:=Kq.trans (ff.sub);have ah:=aq.fix ff;have bh:=bq.fix ff;have oh1:=obq1.fix ff (fun _ h=>h);have oh2:=obq2.fix ff (fun _ h=>h);refine ap ?_;(try simp only [aE,rL,rD,rB,reduceIte,tb,tc]);refine aw ?_
    by_cases hlt:i<o1.cb.length
    ·refine aG (WC.skip ?_);refine az ?_;have hlt':i<o2.cb.length:=by omega
     obtain ⟨p,p1,p2⟩:=oh1.cb.at (fun _=>rfl) fY rfl lJ rfl (by decide) rfl hlt;have p2:=p2 hk fun _ _ _ _ _=>rfl;refine ao ?_;refine ap ?_;(try simp only [aE,rL,rD,rB,reduceIte,ta,tc,p1,p2]);refine cz lJ ?_;intro h5 b5 n5 f5;refine az ?_;refine cq b5 lJ rfl (by decide) rfl ?_;intro h6 b6 n6 f6;have b6:Has h6 hk.bX (fU o1.cb[i]):=b6;have F6:Fix (·<hk.bX) hk h6:=⟨by omega,fun c hc=>by rw [f6.ca c (by omega),f5.ca c (by omega)]⟩
     have o62:=oh2.fix F6 (fun b hb=>by omega);have b62:=bh.fix F6;obtain ⟨q,q1,q2⟩:=o62.cb.at (fun _=>rfl) dp rfl kZ rfl (by decide) rfl hlt';have q2:=q2 h6 fun _ _ _ _ _=>rfl;have l6:cx (E g) h6 43 (.ptr hk.bX 0)=some (.agg (fU o1.cb[i])):=b6.agg lJ rfl (show 0+3≤(fU o1.cb[i]).length from aI 3);refine az ?_
     ((repeat refine WC.seq ?_);refine WC.draw (plans:=Ey) (by kernel_rfl) ?_;simp only [Ey,ak])
     (try simp (maxSteps:=2000000) only [aE,rL,rD,rB,reduceIte,af,Chk,t3,dx,aH,b62.at dp rfl,q1,q2,l6,neq138]);refine aw ?_
     by_cases hc:o1.cb[i]=o2.cb[i]
     ·refine WC.cond (b:=false) (by (try simp only [aE,rL,rD,rB,reduceIte]);simp [hc]) (WC.skip ?_);refine ax ?_;(try simp only [aE,rL,rD,rB,reduceIte,tc,ct])
      refine ⟨_,?_,_,i+1,rfl,⟨by omega,fun b hb=>by rw [F6.ca b (by omega),ff.ca b hb]⟩,rfl,by omega,?_⟩
      ·omega
      (try simp only [aE,rL,rD,rB,reduceIte,t2,t3,ta,tb])
      refine ⟨aD,aD,aD,aD,?_,?_⟩
      ·rw [cy (by omega) (by omega)];rfl
      ·rw [bW hlt,bW hlt',he,hc]
     ·refine WC.cond (b:=true) (by (try simp only [aE,rL,rD,rB,reduceIte]);simp [hc]) ?_;refine au ?_;refine WC.ret ?_;refine az ?_;refine ⟨⟨false,rfl,by constructor<;>(intro q;first|(cases q;done)|(subst q;exact absurd rfl hc))⟩,Kh.trans (F6.sub)⟩
    ·refine aF (WC.exit ?_);have:i=o1.cb.length:=by omega
     subst this;refine az ?_
     have ere:o1.cb=o2.cb:=by
      rw [bv] at he;rw [he,lre,bv]
     refine au ?_;refine WC.ret ?_;refine az ?_;exact ⟨⟨true,rfl,fun _=>Aq (by simpa using k1) (by simpa using k2) (by simpa using k3) (by simpa using k4) (by simpa using k5) esy ere,fun _=>rfl⟩,Kh⟩
   all_goals (try simp only [aE,rL,rD,rB,reduceIte,t2,t3])
   all_goals (first|trivial|rfl|simp)
 all_goals (try simp only [aE,rL,rD,rB,reduceIte,t2,t3])
 all_goals (first|trivial|rfl|simp)
theorem DU {h h':H} {x:ImgD} {v:V} (ce1:gc x=false→v=.tuple [.nils,i64 14]) (ce2:gc x=true→∃s,v=.tuple [s,i64 0]∧nM g h' s (G0 x)∧In (fun b=>h.bX≤b∧b<h'.bX) s) :
  ∃s,v=.tuple [s,i64 (if gc x=true then 0 else 14)]∧Bs g h' s (if gc x=true then G0 x else [])∧In (fun b=>h.bX≤b∧b<h'.bX) s:=by
 cases h0:gc x with
 | true =>
  obtain ⟨s,a,b,c⟩:=ce2 h0;exact ⟨s,a,b.sl,c⟩
 | false=>exact ⟨.nils,ce1 h0,Sl.nil,In.nils⟩
theorem rlk_nz {os:List ObjD} {base:Int} {f:Int×Int} (h:ud os base=.error f):¬f.2=0:=by
 unfold ud at h
 split at h
 ·injection h with h;subst h;simp
 ·split at h
  ·injection h with h;subst h;simp
  ·split at h
   ·injection h with h;subst h;simp
   ·split at h
    ·rename_i q;injection h with h;subst h;exact Ie q
    ·split at h
     ·rename_i q;injection h with h;subst h;exact uf q
     ·cases h
def yG:ImgD:=⟨0,[],0,0,[],[],[]⟩
def AI:Ic:=⟨.nils,.nils,.nils,.nils⟩
theorem AH {h:H} {K:Nat→Prop}:Im g h K AI yG:=⟨Sl.nil,Sl.nil,Sl.nil,Sl.nil,In.nils,In.nils,In.nils,In.nils⟩
theorem vP:FitsI yG:=⟨by decide,by decide,by decide,by decide⟩
theorem I9 {h:H} {ls:V} {L:List (Oc×ObjD)} {base:Int} (hg:g.get 0=some jA) (hm:g.get 1=some I5) (a:Obs g h (·<h.bX) ls L) (r:∀x∈L,Room x.2) (lL:L.length<2^62) :
  WF (E g) 5 [ls,.int .i64 base] h fun v _=>v=.bool true:=by
 refine WF.enter fn5 rfl ?_;refine au ?_;refine au ?_;refine (Hg a r lL).mono fun v h2 ⟨e2,f2⟩=>?_;subst e2;have x2:=f2.bX;have a2:=a.fix f2 fun b hb=>hb;(try simp only [aE,rL,rD,rB,reduceIte,cY]);refine aw ?_
 cases hf:tP L with
 | false =>
  refine WC.cond (b:=true) (by (try simp only [aE,rL,rD,rB,reduceIte,hf]);(try simp);(try omega)) ?_;refine ay ?_;refine yd ?_;refine az ?_;refine WC.ret ?_;(try simp only [aE,rL,rD,rB,reduceIte])
 | true =>
 refine WC.cond (b:=false) (by (try simp only [aE,rL,rD,rB,reduceIte,hf]);(try simp);(try omega)) (WC.skip ?_);refine az ?_;have hfew:=hf;simp only [tP,aU,bH,decide_eq_true_eq] at hfew;obtain ⟨hf1,hf2⟩:=hfew;have fits:∀x∈L,Fits x.2:=fun x hx=>Jk (hf1 x hx);refine au ?_;refine (all_ok (K:=(·<h.bX)) (fun b hb=>by omega) a2 fits (by omega)).mono fun v h3 ⟨A,eA,oA,wA,f3⟩=>?_;have x3:=f3.bX;refine az ?_
 have fitA:∀x∈A,Fits x.2:=fun x hx=>by
  have:x.2∈L.map (·.2):=by rw [←eA];exact bP.2 ⟨x,hx,rfl⟩
  obtain ⟨y,hy,e⟩:=bP.1 this;rw [←e];exact fits y hy
 have lenA:A.length=L.length:=by simpa using congrArg List.length eA
 refine (link_ok (base:=base) (oA.up) wA hg fitA (by omega)).mono fun v h4 ⟨f4,q4⟩=>?_;rw [eA] at q4;have x4:=f4.bX;have a4:=(a2.fix f3).fix f4
 cases hR:mY (L.map (·.2)) base with
 | error f =>
  rw [hR] at q4;simp only at q4;subst q4;refine az ?_;refine cz ir ?_;intro h5 b5 n5 f5;refine az ?_;refine cz cP ?_;intro h6 b6 n6 f6;refine az ?_;refine cq (b5.fix f6) ir rfl (aI 7) rfl ?_;intro h7 b7 n7 f7;have b7:Has h7 h4.bX (AI.cells yG):=b7;refine az ?_;refine cq (b6.fix f7) cP rfl (aI 2) (cN _) ?_;intro h8 b8 n8 f8;have b8:Has h8 h5.bX (cG f):=b8;have F8:cH h4 h8:=⟨by omega,fun b hb=>by rw [f8.ca b (by omega),f7.ca b (by omega),f6.ca b (by omega),f5.ca b hb]⟩
  have b7:=b7.fix f8;have a8:=a4.fix F8;refine ay ?_;refine (Bm (a8.up) fits (by omega)).mono fun v h10 ⟨f10,q10⟩=>?_;rw [wD,hR] at q10;simp only at q10;subst q10;have x10:=f10.bX;refine az ?_;refine cz gY ?_;intro h11 b11 n11 f11;refine az ?_;refine cz cP ?_;intro h12 b12 n12 f12;refine az ?_;refine cq (b11.fix f12) gY rfl (aI 7) rfl ?_;intro h13 b13 n13 f13;have b13:Has h13 h10.bX (AI.cells yG):=b13
  refine az ?_;refine cq (b12.fix f13) cP rfl (aI 2) (cN _) ?_;intro h14 b14 n14 f14;have b14:Has h14 h11.bX (cG f):=b14;have F14:cH h8 h14:=⟨by omega,fun b hb=>by rw [f14.ca b (by omega),f13.ca b (by omega),f12.ca b (by omega),f11.ca b (by omega),f10.ca b hb]⟩;have b8':=b8.fix F14;have l1:cx (E g) h14 35 (.ptr h5.bX 0)=some (.agg (cG f)):=b8'.agg cP rfl (aI 2);have l2:cx (E g) h14 35 (.ptr h11.bX 0)=some (.agg (cG f)):=b14.agg cP rfl (aI 2)
  have l4:cx (E g) h14 32 (.ptr h4.bX 0)=some (.agg (AI.cells yG)):=(b7.fix F14).agg ir rfl (aI 7);have l5:cx (E g) h14 60 (.ptr h10.bX 0)=some (.agg (AI.cells yG)):=(b13.fix f14).agg gY rfl (aI 7);have l3:cx (E g) h14 33 (.ptr h5.bX 1)=some (i64 f.2):=b8'.at mG rfl 1;have hf2:¬f.2=0:=rlk_nz (by rw [wD];exact hR);refine ax ?_;(try simp only [aE,rL,rD,rB,reduceIte,l1,l2,l4,l5,neq73,un]);refine (Ba AH AH vP vP).mono fun v h17 ⟨⟨r,e17,hr⟩,f17⟩=>?_
  obtain rfl:r=true:=hr.2 rfl;subst e17;have l3:cx (E g) h17 33 (.ptr h5.bX 1)=some (i64 f.2):=(b8'.fix f17).at mG rfl 1;(try simp only [aE,rL,rD,rB,reduceIte,un,cY,aV]);refine aw ?_;refine aF (WC.skip ?_);refine ax ?_;(try simp only [aE,rL,rD,rB,reduceIte,lw,aH,l3,i64,iK,kz hf2]);refine aw ?_;refine aG ?_;refine ay ?_;refine yd ?_;refine az ?_;refine WC.ret ?_;(try simp only [aE,rL,rD,rB,reduceIte])
 | ok x =>
  rw [hR] at q4;simp only at q4;obtain ⟨c,q4,imx⟩:=q4;subst q4;refine az ?_;refine cz ir ?_;intro h5 b5 n5 f5;refine az ?_;refine cz cP ?_;intro h6 b6 n6 f6;refine az ?_;have oneC:∀{hh:H} {K:Nat→Prop} {c:Ic},Im g hh K c x→(c.cells x).all V.one=true:=fun im=>by simp only [Ic.cells,List.all_cons,List.all_nil,(Sl.one im.bytes).2,(Sl.one im.cg).2,(Sl.one im.cb).2,(Sl.one im.cf).2,Bool.and_true];rfl
  refine cq (b5.fix f6) ir rfl (aI 7) (oneC imx) ?_;intro h7 b7 n7 f7;have b7:Has h7 h4.bX (c.cells x):=b7;refine az ?_;refine cq (b6.fix f7) cP rfl (aI 2) (cN _) ?_;intro h8 b8 n8 f8;have b8:Has h8 h5.bX (cG (0,0)):=b8;have F8:cH h4 h8:=⟨by omega,fun b hb=>by rw [f8.ca b (by omega),f7.ca b (by omega),f6.ca b (by omega),f5.ca b hb]⟩;have b7:=b7.fix f8;have a8:=a4.fix F8;have imx8:=imx.fix F8 fun b hb=>hb.2
  refine ay ?_;refine (Bm (a8.up) fits (by omega)).mono fun v h10 ⟨f10,q10⟩=>?_;rw [wD,hR] at q10;simp only at q10;obtain ⟨fx,d,q10,imy⟩:=q10;subst q10;have x10:=f10.bX;refine az ?_;refine cz gY ?_;intro h11 b11 n11 f11;refine az ?_;refine cz cP ?_;intro h12 b12 n12 f12;refine az ?_;refine cq (b11.fix f12) gY rfl (aI 7) (oneC imy) ?_;intro h13 b13 n13 f13;have b13:Has h13 h10.bX (d.cells x):=b13;refine az ?_
  refine cq (b12.fix f13) cP rfl (aI 2) (cN _) ?_;intro h14 b14 n14 f14;have b14:Has h14 h11.bX (cG (0,0)):=b14;have F10:cH h10 h14:=⟨by omega,fun b hb=>by rw [f14.ca b (by omega),f13.ca b (by omega),f12.ca b (by omega),f11.ca b (by omega)]⟩;have F14:cH h8 h14:=⟨by omega,fun b hb=>by rw [F10.ca b (by omega),f10.ca b hb]⟩;have b8':=b8.fix F14;have l1:cx (E g) h14 35 (.ptr h5.bX 0)=some (.agg (cG (0,0))):=b8'.agg cP rfl (aI 2)
  have l2:cx (E g) h14 35 (.ptr h11.bX 0)=some (.agg (cG (0,0))):=b14.agg cP rfl (aI 2);have b7':=b7.fix F14;have b13':=b13.fix f14;have l4:cx (E g) h14 32 (.ptr h4.bX 0)=some (.agg (c.cells x)):=b7'.agg ir rfl (aI 7);have l5:cx (E g) h14 60 (.ptr h10.bX 0)=some (.agg (d.cells x)):=b13'.agg gY rfl (aI 7);have imx14:=imx8.fix F14;have imy14:=imy.fix F10 fun b hb=>hb.2;refine ax ?_;(try simp only [aE,rL,rD,rB,reduceIte,l1,l2,l4,l5,neq73,un])
  refine (Ba (imx14.up) (imy14.up) fx fx).mono fun v h17 ⟨⟨r,e17,hr⟩,f17⟩=>?_;obtain rfl:r=true:=hr.2 rfl;subst e17;have x17:=f17.bX;have l3:cx (E g) h17 33 (.ptr h5.bX 1)=some (i64 0):=(b8'.fix f17).at mG rfl 1;have b7'':=b7'.fix f17;have b13'':=b13'.fix f17;have imx17:=imx14.fix f17;have imy17:=imy14.fix f17;have l6:cx (E g) h17 32 (.ptr h4.bX 0)=some (.agg (c.cells x)):=b7''.agg ir rfl (aI 7);(try simp only [aE,rL,rD,rB,reduceIte,un,cY,aV])
  refine aw ?_;refine aF (WC.skip ?_);refine ax ?_;(try simp only [aE,rL,rD,rB,reduceIte,lw,aH,l3,i64,iK,p7 (rfl:(0:Int)=0)]);refine aw ?_;refine aF (WC.skip ?_);refine ax ?_;(try simp only [aE,rL,rD,rB,reduceIte,l6]);refine (HB hm (imx17.up) fx).mono fun v h18 ⟨f18,ce1,ce2⟩=>?_;obtain ⟨sa,ea,sab,sai⟩:=DU ce1 ce2;subst ea;have x18:=f18.bX;have l7:cx (E g) h18 60 (.ptr h10.bX 0)=some (.agg (d.cells x)):=(b13''.fix f18).agg gY rfl (aI 7)
  have imy18:=imy17.fix f18;refine ax ?_;(try simp only [aE,rL,rD,rB,reduceIte,l7]);refine (Gf (imy18.up) fx).mono fun v h19 ⟨f19,cf1,cf2⟩=>?_;obtain ⟨sc,ec,scb,sci⟩:=DU cf1 cf2;subst ec;have sab19:=Sl.fix sab (sai.sub fun b hb=>hb.2) f19;refine ax ?_;(try simp only [aE,rL,rD,rB,reduceIte,eS sab19,eS scb,gH,beq_self_eq_true,i64,un]);refine yd ?_;refine az ?_;refine WC.ret ?_;(try simp only [aE,rL,rD,rB,reduceIte])
end Go.Proofs.OP
