/- Walks: reloc, Contains. -/
import Derived.Test.YtloblhhnlaaajaaDoorY16
set_option maxHeartbeats 8000000
set_option maxRecDepth 100000
set_option linter.unusedVariables false
set_option linter.unusedSimpArgs false
set_option linter.defProp false
namespace Go.Proofs.OP
open Go Go.Ev
open Go.Proofs
open Nat renaming reduceLT → rL, reduceEqDiff → rD, reduceBEq → rB
variable {g : T (List V)}
def sH (o:ObjD) (prev:List RelD) (known:Bool) (r:RelD):Int :=
 if r.sec<1∨2<r.sec∨r.off<0∨cU o r.sec - 4<r.off∨r.add < -2147483648∨2147483648<r.add then 34
 else if r.kind<0∨3≤r.kind then 17
 else if known=false then 22
 else if prev.any (j4 r)=true then 10
 else 0
theorem yr {o:ObjD} {n:Int}:0≤cU o n∧cU o n≤o.code.length+o.data.length:=by
 unfold cU
 split
 ·omega
 ·split<;>omega
theorem Ii {h:H} {b mb:Nat} {c:Oc} {o:ObjD} {i:Nat} {L:List (List UInt8×V)} (hb:Has h b (c.cells o)) (hbn:b<h.bX) (ob:Ob g h (·<h.bX) c o) (m:Mp h mb L) (hmb:mb<h.bX) (hi:i<o.ci.length) (hR:o.ci.length<2^40) (hC:o.code.length<2^40) (hD:o.data.length<2^40) :
  WF (E g) 82 [.ptr b 0,.int .i64 i,.map mb] h fun v h'=>v=i64 (sH o (o.ci.take i) (lk o.ci[i].sym L).isSome o.ci[i])∧cH h h':=by
 generalize hr:o.ci[i]=r;have hb0:Has h b [.str o.name,c.code,c.data,c.ce,c.ci,c.cf,.str o.entry]:=hb;refine WF.enter fn82 rfl ?_;refine au ?_;obtain ⟨p,p1,p2⟩:=ob.ci.at (fun _=>rfl) mF rfl qd rfl (by decide) rfl hi;have p2:=p2 h fun _ _ _ _ _=>rfl;rw [hr] at p2;refine ap ?_;(try simp only [aE,rL,rD,rB,reduceIte,qL,aH,hb0.at mF rfl,p1,p2]);refine cz qd ?_;intro h0 b0 n0 f0;refine az ?_;refine cq b0 qd rfl (by decide) rfl ?_
 intro h1 b1 n1 f1;have b1:Has h1 h.bX (oY r):=b1;have F:cH h h1:=⟨by omega,fun c hc=>by rw [f1.ca c (by omega),f0.ca c hc]⟩;have hb1:Has h1 b (c.cells o):=hb.fix F hbn;have hb2:Has h1 b [.str o.name,c.code,c.data,c.ce,c.ci,c.cf,.str o.entry]:=hb1;have ob1:=(ob.fix F (fun _ h=>h)).up (K':=(·<h1.bX)) (fun _ h=>by omega);have m1:=m.fix F hmb;have l1:cx (E g) h1 3 (.ptr h.bX 0)=some (.int .i64 r.sec):=b1.at ty3 rfl 0
 have l2:cx (E g) h1 2 (.ptr h.bX 1)=some (.int .i64 r.off):=b1.at ty2 rfl 1;have l3:cx (E g) h1 3 (.ptr h.bX 2)=some (.int .i64 r.kind):=b1.at ty3 rfl 2;have l4:cx (E g) h1 9 (.ptr h.bX 3)=some (.str r.sym):=b1.at ty9 rfl 3;have l5:cx (E g) h1 2 (.ptr h.bX 4)=some (.int .i64 r.add):=b1.at ty2 rfl 4;refine ax ?_;(try simp only [aE,rL,rD,rB,reduceIte,uD,aH,l4,dj,uq m1]);refine ao ?_;have k1:WF (E g) 86 [.ptr b 0,.int .i64 r.sec] h1 fun v h'=>v=i64 (cU o r.sec)∧h'=h1:=D8 hb1 ob1
 have hsb:=yr (o:=o) (n:=r.sec);have hw:IntKind.i64.wrap (cU o r.sec - 4)=cU o r.sec - 4:=cy (by omega) (by omega);refine aw ?_
 rcases bz (r.sec<1) with r1|r1
 ·((repeat refine WC.seq ?_);refine WC.draw (plans:=ka) (by kernel_rfl) ?_;simp only [ka,ak])
  (try simp (maxSteps:=2000000) only [aE,rL,rD,rB,reduceIte,af,Chk,iV,iU,jQ,aH,l1,l2,l5,cF,aJ r1])
  try refine k1.mono fun v h3 ⟨e3,e3'⟩=>?_
  try subst e3 e3'
  try (try simp (maxSteps:=2000000) only [aE,rL,rD,rB,reduceIte,af,Chk,iV,iU,jQ,aH,l1,l2,l5,i64,cF,hw,aJ r1])
  refine aw ?_;refine aG ?_;refine au ?_;refine WC.ret ?_;refine az ?_;refine ⟨?_,F⟩;rw [sH,if_pos (by simp [r1])]
 rcases bz ((2:Int)<r.sec) with r2|r2
 ·((repeat refine WC.seq ?_);refine WC.draw (plans:=ka) (by kernel_rfl) ?_;simp only [ka,ak])
  (try simp (maxSteps:=2000000) only [aE,rL,rD,rB,reduceIte,af,Chk,iV,iU,jQ,aH,l1,l2,l5,cF,aK r1,aJ r2])
  try refine k1.mono fun v h3 ⟨e3,e3'⟩=>?_
  try subst e3 e3'
  try (try simp (maxSteps:=2000000) only [aE,rL,rD,rB,reduceIte,af,Chk,iV,iU,jQ,aH,l1,l2,l5,i64,cF,hw,aK r1,aJ r2])
  refine aw ?_;refine aG ?_;refine au ?_;refine WC.ret ?_;refine az ?_;refine ⟨?_,F⟩;rw [sH,if_pos (by simp [r1,r2])]
 rcases bz (r.off<0) with r3|r3
 ·((repeat refine WC.seq ?_);refine WC.draw (plans:=ka) (by kernel_rfl) ?_;simp only [ka,ak])
  (try simp (maxSteps:=2000000) only [aE,rL,rD,rB,reduceIte,af,Chk,iV,iU,jQ,aH,l1,l2,l5,cF,aK r1,aK r2,aJ r3])
  try refine k1.mono fun v h3 ⟨e3,e3'⟩=>?_
  try subst e3 e3'
  try (try simp (maxSteps:=2000000) only [aE,rL,rD,rB,reduceIte,af,Chk,iV,iU,jQ,aH,l1,l2,l5,i64,cF,hw,aK r1,aK r2,aJ r3])
  refine aw ?_;refine aG ?_;refine au ?_;refine WC.ret ?_;refine az ?_;refine ⟨?_,F⟩;rw [sH,if_pos (by simp [r1,r2,r3])]
 rcases bz (cU o r.sec - 4<r.off) with r4|r4
 ·((repeat refine WC.seq ?_);refine WC.draw (plans:=ka) (by kernel_rfl) ?_;simp only [ka,ak])
  (try simp (maxSteps:=2000000) only [aE,rL,rD,rB,reduceIte,af,Chk,iV,iU,jQ,aH,l1,l2,l5,cF,aK r1,aK r2,aK r3,aJ r4])
  try refine k1.mono fun v h3 ⟨e3,e3'⟩=>?_
  try subst e3 e3'
  try (try simp (maxSteps:=2000000) only [aE,rL,rD,rB,reduceIte,af,Chk,iV,iU,jQ,aH,l1,l2,l5,i64,cF,hw,aK r1,aK r2,aK r3,aJ r4])
  refine aw ?_;refine aG ?_;refine au ?_;refine WC.ret ?_;refine az ?_;refine ⟨?_,F⟩;rw [sH,if_pos (by simp [r1,r2,r3,r4])]
 rcases bz (r.add < -2147483648) with r5|r5
 ·((repeat refine WC.seq ?_);refine WC.draw (plans:=ka) (by kernel_rfl) ?_;simp only [ka,ak])
  (try simp (maxSteps:=2000000) only [aE,rL,rD,rB,reduceIte,af,Chk,iV,iU,jQ,aH,l1,l2,l5,cF,aK r1,aK r2,aK r3,aK r4,aJ r5])
  try refine k1.mono fun v h3 ⟨e3,e3'⟩=>?_
  try subst e3 e3'
  try (try simp (maxSteps:=2000000) only [aE,rL,rD,rB,reduceIte,af,Chk,iV,iU,jQ,aH,l1,l2,l5,i64,cF,hw,aK r1,aK r2,aK r3,aK r4,aJ r5])
  refine aw ?_;refine aG ?_;refine au ?_;refine WC.ret ?_;refine az ?_;refine ⟨?_,F⟩;rw [sH,if_pos (by simp [r1,r2,r3,r4,r5])]
 rcases bz ((2147483648:Int)<r.add) with r6|r6
 ·((repeat refine WC.seq ?_);refine WC.draw (plans:=ka) (by kernel_rfl) ?_;simp only [ka,ak])
  (try simp (maxSteps:=2000000) only [aE,rL,rD,rB,reduceIte,af,Chk,iV,iU,jQ,aH,l1,l2,l5,cF,aK r1,aK r2,aK r3,aK r4,aK r5,aJ r6])
  try refine k1.mono fun v h3 ⟨e3,e3'⟩=>?_
  try subst e3 e3'
  try (try simp (maxSteps:=2000000) only [aE,rL,rD,rB,reduceIte,af,Chk,iV,iU,jQ,aH,l1,l2,l5,i64,cF,hw,aK r1,aK r2,aK r3,aK r4,aK r5,aJ r6])
  refine aw ?_;refine aG ?_;refine au ?_;refine WC.ret ?_;refine az ?_;refine ⟨?_,F⟩;rw [sH,if_pos (by simp [r1,r2,r3,r4,r5,r6])]
 ((repeat refine WC.seq ?_);refine WC.draw (plans:=ka) (by kernel_rfl) ?_;simp only [ka,ak])
 (try simp (maxSteps:=2000000) only [aE,rL,rD,rB,reduceIte,af,Chk,iV,iU,jQ,aH,l1,l2,l5,cF,aK r1,aK r2,aK r3,aK r4,aK r5,aK r6]);refine k1.mono fun v h3 ⟨e3,e3'⟩=>?_;subst e3 e3';(try simp (maxSteps:=2000000) only [aE,rL,rD,rB,reduceIte,af,Chk,iV,iU,jQ,aH,l1,l2,l5,i64,cF,hw,aK r1,aK r2,aK r3,aK r4,aK r5,aK r6]);refine aw ?_;refine WC.cond (b:=false) (by (try simp only [aE,rL,rD,rB,reduceIte,aK r1,aK r2,aK r3,aK r4,aK r5,aK r6]);(try simp);(try omega)) ?_
 have hS:∀k:Bool,sH o (o.ci.take i) k r=if r.kind<0∨3≤r.kind then 17 else if k=false then 22 else if (o.ci.take i).any (j4 r)=true then 10 else 0:=by
  intro k;rw [sH,if_neg (by simp only [r1,r2,r3,r4,r5,r6,or_self,not_false_iff])]
 rw [hS]
 rcases bz (r.kind<0) with s1|s1
 ·refine ap ?_;(try simp only [aE,rL,rD,rB,reduceIte,ni,aH,l3,aJ s1]);refine aw ?_;refine aG ?_;refine au ?_;refine WC.ret ?_;refine az ?_;refine ⟨?_,F⟩;rw [if_pos (by simp [s1])]
 rcases bz ((3:Int)≤r.kind) with s2|s2
 ·refine ap ?_;(try simp only [aE,rL,rD,rB,reduceIte,ni,aH,l3,aK s1,aJ s2]);refine aw ?_;refine aG ?_;refine au ?_;refine WC.ret ?_;refine az ?_;refine ⟨?_,F⟩;rw [if_pos (by simp [s1,s2])]
 refine ap ?_;(try simp only [aE,rL,rD,rB,reduceIte,ni,aH,l3,aK s1,aK s2]);refine aw ?_;refine WC.cond (b:=false) (by (try simp only [aE,rL,rD,rB,reduceIte,aK s1,aK s2]);(try simp);(try omega)) ?_;rw [if_neg (by simp only [s1,s2,or_self,not_false_iff])];refine au ?_;refine aw ?_
 cases hs:(lk r.sym L).isSome with
 | false =>
  refine WC.cond (b:=true) (by (try simp only [aE,rL,rD,rB,reduceIte,hs]);(try simp);(try omega)) ?_;refine au ?_;refine WC.ret ?_;refine az ?_;refine ⟨?_,F⟩
  first|trivial|(rw [if_pos rfl];rfl)
 | true =>
  refine WC.cond (b:=false) (by (try simp only [aE,rL,rD,rB,reduceIte,hs]);(try simp);(try omega)) ?_;rw [if_neg (by simp)];obtain ⟨s',q1,q2,q3⟩:=Rcs.upto ob1.ci (fun _=>rfl) mF rfl qd rfl (n:=i) (by omega);refine ap ?_;(try simp only [aE,rL,rD,rB,reduceIte,qL,aH,hb2.at mF rfl,q1,pz]);refine (Cr q2 (q3 _ ob1.inR) b1 (by omega) (by simp;omega)).mono fun v h2 ⟨e2,f2⟩=>?_;subst e2;refine az ?_;refine aw ?_
  have F2:cH h h2:=F.trans (f2.sub fun x hx=>by omega)
  cases hc:(o.ci.take i).any (j4 r) with
  | true =>
   refine WC.cond (b:=true) (by (try simp only [aE,rL,rD,rB,reduceIte,hc]);(try simp);(try omega)) ?_;refine au ?_;refine WC.ret ?_;refine az ?_;refine ⟨?_,F2⟩
   first|trivial|(rw [if_pos rfl];rfl)
  | false =>
   refine WC.cond (b:=false) (by (try simp only [aE,rL,rD,rB,reduceIte,hc]);(try simp);(try omega)) (WC.skip ?_);refine ay ?_;refine WC.ret ?_;refine az ?_;refine ⟨?_,F2⟩
   first|trivial|(rw [if_neg (by simp)];rfl)
theorem GY {h:H} {s:V} {L:List (List UInt8)} {k:List UInt8} (a:Ss g h s L) (hM:L.length<2^62) :
  WF (E g) 103 [s,.str k] h fun v h'=>(∃n:Int,v=.int .i64 n∧decide (0≤n)=L.contains k)∧h'=h:=by
 refine WF.enter fn103 rfl ?_;refine au ?_;refine ap ?_;(try simp only [aE,rL,rD,rB,reduceIte,Sl.lenB a cD rfl]);refine ao ?_
 refine WC.while (fun m fr hh=>∃ts i,fr=⟨ts,19,[],103,none⟩∧hh=h∧m=L.length - i∧i≤L.length∧ts.get 0=some s∧ts.get 1=some (.str k)∧ts.get 7=some (.int .i64 L.length)∧ts.get 8=some (.int .i64 i)∧(L.take i).contains k=false) ?_ ⟨_,0,rfl,rfl,rfl,by omega,?_,?_,?_,?_,?_⟩
 ·rintro m fr hh ⟨ts,i,rfl,rfl,rfl,hi,t0,t1,t7,t8,hno⟩
  refine ap ?_;(try simp only [aE,rL,rD,rB,reduceIte,t7,t8]);refine aw ?_
  by_cases hlt:i<L.length
  ·refine aG (WC.skip ?_);refine az ?_;obtain ⟨p,p1,p2⟩:=a.at cD rfl ty9 rfl rfl hlt;have p2:=p2 hh fun _ _ _ _ _=>rfl;refine ao ?_;refine ap ?_;(try simp only [aE,rL,rD,rB,reduceIte,t8]);refine ap ?_;(try simp only [aE,rL,rD,rB,reduceIte,t0,t1,p1,p2,gH]);refine aw ?_
   cases hb:(k==L[i]) with
   | true =>
    refine WC.cond (b:=true) (by (try simp only [aE,rL,rD,rB,reduceIte,hb]);(try simp);(try omega)) ?_;refine au ?_;refine WC.ret ?_;refine az ?_;refine ⟨⟨_,rfl,?_⟩,by trivial⟩
    have:L.contains k=true:=by
     rw [List.contains_iff_mem,eq_of_beq hb];exact aP hlt
    rw [this];simp
   | false =>
    refine WC.cond (b:=false) (by (try simp only [aE,rL,rD,rB,reduceIte,hb]);(try simp);(try omega)) (WC.skip ?_);refine ax ?_;(try simp only [aE,rL,rD,rB,reduceIte,t8,ct])
    refine ⟨_,?_,_,i+1,rfl,by trivial,rfl,by omega,?_⟩
    ·omega
    (try simp only [aE,rL,rD,rB,reduceIte,t0,t1,t7])
    refine ⟨aD,aD,aD,?_,?_⟩
    ·rw [cy (by omega) (by omega)];rfl
    ·rw [bW hlt,List.contains_eq_any_beq,List.any_append,←List.contains_eq_any_beq,hno];simp only [List.any_cons,List.any_nil,Bool.or_false,Bool.false_or,hb]
  ·refine aF (WC.exit ?_);have:i=L.length:=by omega
   subst this;refine ay ?_;rw [bv] at hno;refine WC.ret ?_;refine az ?_;exact ⟨⟨_,rfl,by rw [hno];rfl⟩,by trivial⟩
 all_goals (try simp only [aE,rL,rD,rB,reduceIte])
 all_goals simp
theorem pS {h:H} {s:V} {L:List (List UInt8)} {k:List UInt8} (a:Ss g h s L) (hM:L.length<2^62) :
  WF (E g) 83 [s,.str k] h fun v h'=>v=.bool (L.contains k)∧h'=h:=by
 refine WF.enter fn83 rfl ?_;refine au ?_;refine au ?_;refine (GY a hM).mono fun v h1 ⟨⟨n,e,hk⟩,f1⟩=>?_;subst e f1;refine az ?_;refine aw ?_;refine WC.ret ?_;refine az ?_;exact ⟨by rw [hk],by trivial⟩
end Go.Proofs.OP
