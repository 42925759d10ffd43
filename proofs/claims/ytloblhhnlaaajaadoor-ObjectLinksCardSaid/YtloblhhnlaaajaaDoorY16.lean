/- Walks: limits, symbol. -/
import Derived.Test.YtloblhhnlaaajaaDoorY15
set_option maxRecDepth 100000
set_option linter.unusedVariables false
set_option linter.unusedSimpArgs false
set_option linter.defProp false
namespace Go.Proofs.OP
open Go Go.Ev
open Go.Proofs
open Nat renaming reduceLT → rL, reduceEqDiff → rD, reduceBEq → rB
variable {g : T (List V)}
theorem JB {a b:Int}:dY (E g) 221 [(0,.int .i64 a),(1,.int .i64 b)]=some (.agg [.int .i64 a,.int .i64 b]):=by
 simp only [dY,vS,cL ty3,cW,se,bo];rfl
def two (p:Int×Int):List V:=[i64 p.1,i64 p.2]
def sT (o:ObjD):List (Int×Int):=[((o.code.length:Int),16384),((o.data.length:Int),16384),((o.ce.length:Int),500),((o.ci.length:Int),1000),((o.cf.length:Int),20)]
def uu (o:ObjD):Int:=if (sT o).any fun p=>decide (p.2<p.1) then 18 else 0
theorem GT {h:H} {b:Nat} {c:Oc} {o:ObjD} (hb:Has h b (c.cells o)) (ob:Ob g h (·<h.bX) c o):WF (E g) 79 [.ptr b 0] h fun v h'=>v=i64 (uu o)∧cH h h':=by
 have hb:Has h b [.str o.name,c.code,c.data,c.ce,c.ci,c.cf,.str o.entry]:=hb;refine WF.enter fn79 rfl ?_;refine au ?_
 ((repeat refine WC.seq ?_);refine WC.draw (plans:=It) (by kernel_rfl) ?_;simp only [It,ak])
 (try simp (maxSteps:=2000000) only [aE,rL,rD,rB,reduceIte,af,Chk,xG,xE,pO,qL,An,aH,hb.at cM rfl,hb.at oO rfl,hb.at mF rfl,hb.at cD rfl,ob.code.len,ob.data.len,Sl.lenB ob.ce oO rfl,Sl.lenB ob.ci mF rfl,Sl.lenB ob.cf cD rfl,JB])
 refine de (sz:=2) (n:=5) (cs:=(sT o).flatMap two) HI rfl vS rfl (by decide) (by decide) ?_ rfl ?_
 ·rfl
 intro h1 b1 n1 f1;have r1:Rcs (E g) h1 2 two (.slice h.bX 0 5 (.lit 5)) (sT o):=b1.sl;(try simp (maxSteps:=2000000) only [aE,rL,rD,rB,reduceIte,af,Chk,r1.lenB HI rfl]);refine ao ?_;have hl:(sT o).length=5:=rfl
 refine WC.while (fun m fr hh=>∃ts i,fr=⟨ts,47,[],79,none⟩∧Fix (·<h1.bX) h1 hh∧m=5 - i∧i≤5∧ts.get 35=some (.slice h.bX 0 5 (.lit 5))∧ts.get 36=some (.int .i64 5)∧ts.get 37=some (.int .i64 i)∧((sT o).take i).any (fun p=>decide (p.2<p.1))=false) ?_ ⟨_,0,rfl,Fix.refl _ _,rfl,by omega,?_,?_,?_,rfl⟩
 ·rintro m fr hh ⟨ts,i,rfl,ff,rfl,hi,t35,t36,t37,hno⟩
  have F:cH h hh:=f1.trans (ff.sub);refine ap ?_;(try simp only [aE,rL,rD,rB,reduceIte,t36,t37]);refine aw ?_
  by_cases hlt:i<5
  ·refine aG (WC.skip ?_);refine az ?_;obtain ⟨p,p1,p2⟩:=r1.at (fun _=>rfl) HI rfl vS rfl (by decide) rfl (k:=i) (by omega);have p2:=p2 hh fun b o m c e=>ff.ca b (by injection e with e;omega);refine ao ?_;refine ap ?_;(try simp only [aE,rL,rD,rB,reduceIte,t35,t37,p1,p2]);refine cz vS ?_;intro h2 b2 n2 f2;refine az ?_;refine cq b2 vS rfl (by decide) rfl ?_;intro h3 b3 n3 f3;have b3:Has h3 hh.bX [.int .i64 ((sT o)[i]'(by omega)).1,.int .i64 ((sT o)[i]'(by omega)).2]:=b3
   have F3:Fix (·<h1.bX) h1 h3:=⟨by have:=ff.bX;omega,fun c hc=>by rw [f3.ca c (by have:=ff.bX;omega),f2.ca c (by have:=ff.bX;omega),ff.ca c hc]⟩;refine ax ?_;have i0:cK (E g) 221 (.ptr hh.bX 0) (.int .i64 0)=some (.ptr hh.bX 0):=by simp [cK,vS,j0,cL ty3];rfl
   have i1:cK (E g) 221 (.ptr hh.bX 0) (.int .i64 1)=some (.ptr hh.bX 1):=by simp [cK,vS,j0,cL ty3];rfl
   (try simp only [aE,rL,rD,rB,reduceIte,i0,i1,b3.at ty3 rfl]);refine aw ?_
   by_cases hg:((sT o)[i]'(by omega)).2<((sT o)[i]'(by omega)).1
   ·refine WC.cond (b:=true) (by (try simp only [aE,rL,rD,rB,reduceIte,aJ hg]);(try simp);(try omega)) ?_;refine au ?_;refine WC.ret ?_;refine az ?_;refine ⟨?_,f1.trans (F3.sub)⟩;rw [uu,if_pos];· rfl
    rw [List.any_eq_true];exact ⟨_,aP (show i<(sT o).length by omega),by simpa using hg⟩
   ·refine WC.cond (b:=false) (by (try simp only [aE,rL,rD,rB,reduceIte,aK hg]);(try simp);(try omega)) (WC.skip ?_);refine ax ?_;(try simp only [aE,rL,rD,rB,reduceIte,t37,ct])
    refine ⟨_,?_,_,i+1,rfl,F3,rfl,by omega,?_⟩
    ·omega
    (try simp only [aE,rL,rD,rB,reduceIte,t35,t36])
    refine ⟨aD,aD,?_,?_⟩
    ·rw [cy (by omega) (by omega)];rfl
    ·rw [bW (show i<(sT o).length by omega),List.any_append,hno];simp only [List.any_cons,List.any_nil,Bool.or_false,Bool.false_or];exact aK hg
  ·refine aF (WC.exit ?_);have:i=5:=by omega
   subst this;refine ay ?_;refine WC.ret ?_;refine az ?_;refine ⟨?_,F⟩;rw [uu,if_neg];· rfl
   intro hh;rw [←bv (l:=sT o)] at hh;rw [hl] at hh;rw [hno] at hh;cases hh
 all_goals (try simp only [aE,rL,rD,rB,reduceIte])
 all_goals rfl
def oP (o:ObjD) (x:SymD) (seen:Bool):Int :=
 if eR x.name≠0 then eR x.name
 else if seen=true then 38
 else if x.sec<0∨2<x.sec∨x.off<0∨cU o x.sec<x.off then 34
 else if x.cn=false∧(x.sec=0∨x.cm=true) then 14
 else 0
theorem uq {h:H} {b:Nat} {k:List UInt8} {L:List (List UInt8×V)} (m:Mp h b L):gJ (E g) h 168 (.map b) (.str k) true=some (.tuple [(lk k L).getD (.int .i64 0),.bool (lk k L).isSome]) :=
 EP m ty168 rfl ty9 rfl ty3
theorem FQ {h:H} {b mb:Nat} {c:Oc} {o:ObjD} {x:SymD} {L:List (List UInt8×V)} (hb:Has h b (c.cells o)) (hbn:b<h.bX) (ob:Ob g h (·<h.bX) c o) (m:Mp h mb L) (hmb:mb<h.bX) :
  WF (E g) 81 [.ptr b 0,.agg (iD x),.map mb] h fun v h'=>v=i64 (oP o x (lk x.name L).isSome)∧cH h h':=by
 refine WF.enter fn81 rfl ?_;refine au ?_;refine eI (v:=.agg (iD x)) (by (try simp only [aE,rL,rD,rB,reduceIte])) ?_;intro h1 b1 n1 f1;refine az ?_;have b1:Has h1 h.bX [.str x.name,i64 x.sec,i64 x.off,.bool x.cn,.bool x.cm]:=b1;have hb1:Has h1 b (c.cells o):=hb.fix f1 hbn;have ob1:=ob.fix f1 (fun _ h=>h);have m1:=m.fix f1 hmb;have l1:cx (E g) h1 9 (.ptr h.bX 0)=some (.str x.name):=b1.at ty9 rfl 0;have l2:cx (E g) h1 3 (.ptr h.bX 1)=some (.int .i64 x.sec):=b1.at ty3 rfl 1
 have l3:cx (E g) h1 2 (.ptr h.bX 2)=some (.int .i64 x.off):=b1.at ty2 rfl 2;have l4:cx (E g) h1 4 (.ptr h.bX 3)=some (.bool x.cn):=b1.at ty4 rfl 3;have l5:cx (E g) h1 4 (.ptr h.bX 4)=some (.bool x.cm):=b1.at ty4 rfl 4;refine ap ?_;(try simp only [aE,rL,rD,rB,reduceIte,kf,aH,l1]);refine tG.mono fun v h2 ⟨e2,e2'⟩=>?_;subst e2 e2';refine ay ?_;refine aw ?_
 rcases (bz (eR x.name=0)).symm with hn|hn
 ·refine WC.cond (b:=true) (by (try simp only [aE,rL,rD,rB,reduceIte,hn]);(try simp);(try omega)) ?_;refine au ?_;refine WC.ret ?_;refine az ?_;exact ⟨by rw [oP,if_pos hn];rfl,f1⟩
 refine WC.cond (b:=false) (by (try simp only [aE,rL,rD,rB,reduceIte,hn]);(try simp);(try omega)) (WC.skip ?_);refine ax ?_;(try simp only [aE,rL,rD,rB,reduceIte,kf,aH,l1,dj,uq m1]);refine ao ?_;refine au ?_;refine aw ?_
 cases hs:(lk x.name L).isSome with
 | true =>
  refine WC.cond (b:=true) (by (try simp only [aE,rL,rD,rB,reduceIte,hs]);(try simp);(try omega)) ?_;refine au ?_;refine WC.ret ?_;refine az ?_;exact ⟨by rw [oP,if_neg (by simp [hn]),if_pos rfl];rfl,f1⟩
 | false =>
  refine WC.cond (b:=false) (by (try simp only [aE,rL,rD,rB,reduceIte,hs]);(try simp);(try omega)) ?_;have k1:WF (E g) 86 [.ptr b 0,.int .i64 x.sec] h2 fun v h'=>v=i64 (cU o x.sec)∧h'=h2:=D8 hb1 ob1
  rcases bz (x.sec<0) with r1|r1
  ·((repeat refine WC.seq ?_);refine WC.draw (plans:=oG) (by kernel_rfl) ?_;simp only [oG,ak])
   (try simp (maxSteps:=2000000) only [aE,rL,rD,rB,reduceIte,af,Chk,eV,kH,aH,l2,l3,aJ r1])
   try refine k1.mono fun v h3 ⟨e3,e3'⟩=>?_
   try subst e3 e3'
   try (try simp (maxSteps:=2000000) only [aE,rL,rD,rB,reduceIte,af,Chk,eV,kH,aH,l2,l3,i64,aJ r1])
   refine aw ?_;refine aG ?_;refine au ?_;refine WC.ret ?_;refine az ?_;refine ⟨?_,f1⟩;rw [oP,if_neg (by simp [hn]),if_neg (by simp),if_pos (by simp [r1])]
  rcases bz ((2:Int)<x.sec) with r2|r2
  ·((repeat refine WC.seq ?_);refine WC.draw (plans:=oG) (by kernel_rfl) ?_;simp only [oG,ak])
   (try simp (maxSteps:=2000000) only [aE,rL,rD,rB,reduceIte,af,Chk,eV,kH,aH,l2,l3,aK r1,aJ r2])
   try refine k1.mono fun v h3 ⟨e3,e3'⟩=>?_
   try subst e3 e3'
   try (try simp (maxSteps:=2000000) only [aE,rL,rD,rB,reduceIte,af,Chk,eV,kH,aH,l2,l3,i64,aK r1,aJ r2])
   refine aw ?_;refine aG ?_;refine au ?_;refine WC.ret ?_;refine az ?_;refine ⟨?_,f1⟩;rw [oP,if_neg (by simp [hn]),if_neg (by simp),if_pos (by simp [r1,r2])]
  rcases bz (x.off<0) with r3|r3
  ·((repeat refine WC.seq ?_);refine WC.draw (plans:=oG) (by kernel_rfl) ?_;simp only [oG,ak])
   (try simp (maxSteps:=2000000) only [aE,rL,rD,rB,reduceIte,af,Chk,eV,kH,aH,l2,l3,aK r1,aK r2,aJ r3])
   try refine k1.mono fun v h3 ⟨e3,e3'⟩=>?_
   try subst e3 e3'
   try (try simp (maxSteps:=2000000) only [aE,rL,rD,rB,reduceIte,af,Chk,eV,kH,aH,l2,l3,i64,aK r1,aK r2,aJ r3])
   refine aw ?_;refine aG ?_;refine au ?_;refine WC.ret ?_;refine az ?_;refine ⟨?_,f1⟩;rw [oP,if_neg (by simp [hn]),if_neg (by simp),if_pos (by simp [r1,r2,r3])]
  rcases bz (cU o x.sec<x.off) with r4|r4
  ·((repeat refine WC.seq ?_);refine WC.draw (plans:=oG) (by kernel_rfl) ?_;simp only [oG,ak])
   (try simp (maxSteps:=2000000) only [aE,rL,rD,rB,reduceIte,af,Chk,eV,kH,aH,l2,l3,aK r1,aK r2,aK r3,aJ r4])
   try refine k1.mono fun v h3 ⟨e3,e3'⟩=>?_
   try subst e3 e3'
   try (try simp (maxSteps:=2000000) only [aE,rL,rD,rB,reduceIte,af,Chk,eV,kH,aH,l2,l3,i64,aK r1,aK r2,aK r3,aJ r4])
   refine aw ?_;refine aG ?_;refine au ?_;refine WC.ret ?_;refine az ?_;refine ⟨?_,f1⟩;rw [oP,if_neg (by simp [hn]),if_neg (by simp),if_pos (by simp [r1,r2,r3,r4])]
  ((repeat refine WC.seq ?_);refine WC.draw (plans:=oG) (by kernel_rfl) ?_;simp only [oG,ak])
  (try simp (maxSteps:=2000000) only [aE,rL,rD,rB,reduceIte,af,Chk,eV,kH,aH,l2,l3,aK r1,aK r2,aK r3,aK r4]);refine k1.mono fun v h3 ⟨e3,e3'⟩=>?_;subst e3 e3';(try simp (maxSteps:=2000000) only [aE,rL,rD,rB,reduceIte,af,Chk,eV,kH,aH,l2,l3,i64,aK r1,aK r2,aK r3,aK r4]);refine aw ?_;refine WC.cond (b:=false) (by (try simp only [aE,rL,rD,rB,reduceIte,aK r1,aK r2,aK r3,aK r4]);(try simp);(try omega)) ?_
  have hS:oP o x false=if x.cn=false∧(x.sec=0∨x.cm=true) then 14 else 0:=by
   rw [oP,if_neg (by simp [hn]),if_neg (by simp),if_neg (by simp [r1,r2,r3,r4])]
  rw [hS];have hz:∀n:Int,(V.bool (n==0))=.bool (decide (n=0)):=fun n=>by congr 1
  rcases bg (x.cn) with q1|q1
  ·refine ap ?_;(try simp only [aE,rL,rD,rB,reduceIte,eV,pN,jR,aH,l2,l4,l5,q1,cY,aV]);refine aw ?_;refine aF (WC.skip ?_);refine ay ?_;refine WC.ret ?_;refine az ?_;refine ⟨?_,f1⟩;rw [if_neg (by simp [q1])]
  rcases bz (x.sec=0) with q2|q2
  ·refine ap ?_;(try simp only [aE,rL,rD,rB,reduceIte,eV,pN,jR,aH,l2,l4,l5,q1,cY,bE,hz,aJ q2]);refine aw ?_;refine WC.cond (b:=true) (by (try simp only [aE,rL,rD,rB,reduceIte,hz,aJ q2]);(try simp);(try omega)) ?_;refine au ?_;refine WC.ret ?_;refine az ?_;refine ⟨?_,f1⟩;rw [if_pos (by simp [q1,q2])]
  rcases bg (x.cm) with q3|q3
  ·refine ap ?_;(try simp only [aE,rL,rD,rB,reduceIte,eV,pN,jR,aH,l2,l4,l5,q1,cY,bE,hz,aK q2,q3]);refine aw ?_;refine WC.cond (b:=true) (by (try simp only [aE,rL,rD,rB,reduceIte,hz,aK q2,q3]);(try simp);(try omega)) ?_;refine au ?_;refine WC.ret ?_;refine az ?_;refine ⟨?_,f1⟩;rw [if_pos (by simp [q1,q2,q3])]
  refine ap ?_;(try simp only [aE,rL,rD,rB,reduceIte,eV,pN,jR,aH,l2,l4,l5,q1,cY,bE,hz,aK q2,q3]);refine aw ?_;refine WC.cond (b:=false) (by (try simp only [aE,rL,rD,rB,reduceIte,hz,aK q2,q3]);(try simp);(try omega)) (WC.skip ?_);refine ay ?_;refine WC.ret ?_;refine az ?_;refine ⟨?_,f1⟩;rw [if_neg (by simp [q1,q2,q3])]
theorem zr {α:Type} {f:α→List V} {sz:Nat} (hf:∀x,(f x).length=sz):∀(L:List α) (i:Nat),(L.flatMap f).take (i * sz)=(L.take i).flatMap f
 | [],i=>by simp
 | x::r,0=>by simp
 | x::r,i+1=>by
  rw [bM,List.take_succ_cons,bM,←zr hf r i,List.take_append,hf,bT (by rw [hf,Nat.succ_mul];omega)]
  congr 2
  rw [Nat.succ_mul];omega
theorem Rcs.upto {α:Type} {h:H} {sz:Nat} {f:α→List V} {s:V} {L:List α} (a:Rcs (E g) h sz f s L) (hf:∀x,(f x).length=sz) {t e:Nat} {i ei:TI} (ht:(E g).tys.get t=some i) (hd:i.desc=.slice e) (he:(E g).tys.get e=some ei) (hs:ei.size=sz) {n:Nat} (hn:n≤L.length) :
  ∃s',eL (E g) t s none (some (.int .i64 n)) none=some s'∧Rcs (E g) h sz f s' (L.take n)∧(∀K,In K s→In K s'):=by
 obtain ⟨s',h1,h2,h3,_⟩:=Sl.sub a ht hd (by rw [cL he,hs]) (lo:=none) (hi:=some n) (l:=0) (r:=n) rfl rfl (Nat.zero_le _) hn;refine ⟨s',h1,?_,h3⟩;have e:(L.take n).length=n:=by simp;omega
 unfold Rcs;rw [e,←zr hf];simpa using h2
def j4 (r x:RelD):Bool:=decide (x.sec=r.sec)&&(decide (x.off<IntKind.i64.wrap (r.off+4))&&decide (r.off<IntKind.i64.wrap (x.off+4)))
theorem rE (a b:Int):(a==b)=decide (a=b):=by by_cases h:a=b<;>simp [h]
theorem Jr {h:H} {r x:RelD} {rb:Nat} (b:Has h rb (oY r)) (hrb:rb<h.bX):WF (E g) 110 [.agg (oY x),.ptr rb 0] h fun v h'=>v=.bool (j4 r x)∧cH h h':=by
 refine WF.enter fn110 rfl ?_;refine au ?_;refine eI (v:=.agg (oY x)) (by (try simp only [aE,rL,rD,rB,reduceIte])) ?_;intro h1 b1 n1 f1;refine az ?_;have c:=b.fix f1 hrb;have c0:cx (E g) h1 3 (.ptr rb 0)=some (.int .i64 r.sec):=c.at ty3 rfl 0;have c1:cx (E g) h1 2 (.ptr rb 1)=some (.int .i64 r.off):=c.at ty2 rfl 1;have d0:cx (E g) h1 3 (.ptr h.bX 0)=some (.int .i64 x.sec):=b1.at ty3 rfl 0;have d1:cx (E g) h1 2 (.ptr h.bX 1)=some (.int .i64 x.off):=b1.at ty2 rfl 1
 rcases (bz (x.sec=r.sec)).symm with q1|q1
 ·refine ap ?_;(try simp only [aE,rL,rD,rB,reduceIte,iV,iU,aH,c0,c1,d0,d1,ct,rE,aK q1]);refine aw ?_;refine WC.ret ?_;refine az ?_;refine ⟨?_,f1⟩;simp [j4,q1]
 rcases (bz (x.off<IntKind.i64.wrap (r.off+4))).symm with q2|q2
 ·refine ap ?_;(try simp only [aE,rL,rD,rB,reduceIte,iV,iU,aH,c0,c1,d0,d1,ct,rE,aJ q1,aK q2]);refine aw ?_;refine WC.ret ?_;refine az ?_;refine ⟨?_,f1⟩;simp [j4,q1,q2]
 refine ap ?_;(try simp only [aE,rL,rD,rB,reduceIte,iV,iU,aH,c0,c1,d0,d1,ct,rE,aJ q1,aJ q2]);refine aw ?_;refine WC.ret ?_;refine az ?_;refine ⟨?_,f1⟩;simp [j4,q1,q2]
theorem Jb {h:H} {s:V} {L:List RelD} {r:RelD} {rb:Nat} (a:Re g h s L) (hs:In (·<h.bX) s) (b:Has h rb (oY r)) (hrb:rb<h.bX) (hM:L.length<2^62) :
  WF (E g) 125 [s,.func 110 [] [.ptr rb 0]] h fun v h'=>(∃k:Int,v=.int .i64 k∧(decide (0≤k))=L.any (j4 r))∧cH h h':=by
 refine WF.enter fn125 rfl ?_;refine au ?_;refine ap ?_;(try simp only [aE,rL,rD,rB,reduceIte,Sl.lenB a mF rfl]);refine ao ?_
 refine WC.while (fun m fr hh=>∃ts i,fr=⟨ts,19,[],125,none⟩∧cH h hh∧m=L.length - i∧i≤L.length∧ts.get 0=some s∧ts.get 1=some (.func 110 [] [.ptr rb 0])∧ts.get 7=some (.int .i64 L.length)∧ts.get 8=some (.int .i64 i)∧(L.take i).any (j4 r)=false) ?_ ⟨_,0,rfl,Fix.refl _ _,rfl,by omega,?_,?_,?_,?_,?_⟩
 ·rintro m fr hh ⟨ts,i,rfl,ff,rfl,hi,t0,t1,t7,t8,hno⟩
  refine ap ?_;(try simp only [aE,rL,rD,rB,reduceIte,t7,t8]);refine aw ?_
  by_cases hlt:i<L.length
  ·refine aG (WC.skip ?_);refine az ?_;obtain ⟨p,p1,p2⟩:=a.at (fun _=>rfl) mF rfl qd rfl (by decide) rfl hlt;have p2:=p2 hh fun b o m c e=>ff.ca b (hs _ _ _ _ e);have hmem:=aP hlt;refine ao ?_;refine ap ?_;(try simp only [aE,rL,rD,rB,reduceIte,t8]);refine ap ?_;(try simp only [aE,rL,rD,rB,reduceIte,t0,t1,p1,p2]);refine (Jr (b.fix ff hrb) (Nat.lt_of_lt_of_le hrb ff.bX)).mono fun v h2 ⟨e2,f2⟩=>?_;subst e2
   refine az ?_;refine aw ?_
   cases hb:j4 r L[i] with
   | true =>
    refine WC.cond (b:=true) (by (try simp only [aE,rL,rD,rB,reduceIte,hb]);(try simp);(try omega)) ?_;refine au ?_;refine WC.ret ?_;refine az ?_;refine ⟨⟨_,rfl,?_⟩,ff.trans (f2.sub fun x hx=>Nat.lt_of_lt_of_le hx ff.bX)⟩
    have:L.any (j4 r)=true:=by
     rw [List.any_eq_true];exact ⟨_,hmem,hb⟩
    rw [this];simp
   | false =>
    refine WC.cond (b:=false) (by (try simp only [aE,rL,rD,rB,reduceIte,hb]);(try simp);(try omega)) (WC.skip ?_);refine ax ?_;(try simp only [aE,rL,rD,rB,reduceIte,t8,ct])
    refine ⟨_,?_,_,i+1,rfl,ff.trans (f2.sub fun x hx=>Nat.lt_of_lt_of_le hx ff.bX),rfl,by omega,?_⟩
    ·omega
    (try simp only [aE,rL,rD,rB,reduceIte,t0,t1,t7])
    refine ⟨aD,aD,aD,?_,?_⟩
    ·rw [cy (by omega) (by omega)];rfl
    ·rw [bW hlt,List.any_append,hno];simp only [List.any_cons,List.any_nil,Bool.or_false,Bool.false_or,hb]
  ·refine aF (WC.exit ?_);have:i=L.length:=by omega
   subst this;refine ay ?_;rw [bv] at hno;refine WC.ret ?_;refine az ?_;exact ⟨⟨_,rfl,by rw [hno];rfl⟩,ff⟩
 all_goals (try simp only [aE,rL,rD,rB,reduceIte])
 all_goals simp
theorem Cr {h:H} {s:V} {L:List RelD} {r:RelD} {rb:Nat} (a:Re g h s L) (hs:In (·<h.bX) s) (b:Has h rb (oY r)) (hrb:rb<h.bX) (hM:L.length<2^62) :
  WF (E g) 109 [s,.func 110 [] [.ptr rb 0]] h fun v h'=>v=.bool (L.any (j4 r))∧cH h h':=by
 refine WF.enter fn109 rfl ?_;refine au ?_;refine au ?_;refine (Jb a hs b hrb hM).mono fun v h1 ⟨⟨k,e,hk⟩,f1⟩=>?_;subst e;refine az ?_;refine aw ?_;refine WC.ret ?_;refine az ?_;exact ⟨by rw [hk],f1⟩
end Go.Proofs.OP
