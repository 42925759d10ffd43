/- Walks: object.Check. -/
import Derived.Test.YtloblhhnlaaajaaDoorY17
set_option maxHeartbeats 8000000
set_option maxRecDepth 100000
set_option linter.unusedVariables false
set_option linter.unusedSimpArgs false
set_option linter.defProp false
namespace Go.Proofs.OP
open Go Go.Ev
open Go.Proofs
open Nat renaming reduceLT → rL, reduceEqDiff → rD, reduceBEq → rB
variable {g : T (List V)}
def orE (a b:Int):Int:=if a≠0 then a else b
theorem jy {a b:Int} (h:a=0):orE a b=b:=by unfold orE;simp [h]
theorem dH {a b:Int} (h:a≠0):orE a b=a:=by unfold orE;simp [h]
def tab:Nat→List SymD→List (List UInt8×V)
 | _,[]=>[]
 | n,s::r=>(s.name,.int .i64 n)::tab (n+1) r
def fnd (k:List UInt8):List SymD→Option Nat
 | []=>none
 | s::r=>if s.name=k then some 0 else (fnd k r).map (·+1)
theorem AQ:∀(n:Nat) (L:List SymD) (s:SymD),tab n (L++[s])=tab n L++[(s.name,.int .i64 ((n+L.length:Nat):Int))]
 | n,[],s=>by simp [tab]
 | n,x::r,s=>by
  simp only [List.cons_append,tab,AQ (n+1) r s,aO];rw [show n+1+r.length=n+(r.length+1) by omega]
theorem Dl (k:List UInt8):∀(n:Nat) (L:List SymD),lk k (tab n L)=(fnd k L).map fun j=>.int .i64 ((n+j:Nat):Int)
 | n,[]=>rfl
 | n,s::r=>by
  simp only [tab,lk,fnd]
  by_cases h:s.name=k
  ·rw [if_pos h,if_pos h];rfl
  ·rw [if_neg h,if_neg h,Dl k (n+1) r]
   cases fnd k r with
   | none=>rfl
   | some j=>simp only [bo];rw [show n+1+j=n+(j+1) by omega]
theorem qJ {k:List UInt8}:∀{L:List SymD} {j:Nat},fnd k L=some j→∃h:j<L.length,L[j].name=k
 | [],j,h=>by cases h
 | s::r,j,h=>by
  simp only [fnd] at h
  split at h
  ·injection h with h;subst h;exact ⟨by simp,by assumption⟩
  ·obtain ⟨j',h1,rfl⟩:=aR.1 h;obtain ⟨q,q'⟩:=qJ h1;exact ⟨by simpa using q,by simpa using q'⟩
theorem B4 {k:List UInt8} {v:V}:∀{L:List (List UInt8×V)},lk k L=none→ins k v L=L++[(k,v)]
 | [],_=>rfl
 | p::r,h=>by
  simp only [lk] at h
  split at h
  ·cases h
  ·rename_i hp;simp only [ins,if_neg hp,B4 h,List.cons_append]
def fg (k:List UInt8) (L:List SymD):Bool:=(fnd k L).isSome
theorem ut (k:List UInt8) (L:List SymD):(lk k (tab 0 L)).isSome=fg k L:=by rw [Dl,fg];cases fnd k L<;>rfl
def oH:List (List UInt8)→Int
 | []=>0
 | x::r=>orE (mW x) (oH r)
def lH (o:ObjD):List SymD→List SymD→Int
 | _,[]=>0
 | p,x::r=>orE (oP o x (fg x.name p)) (lH o (p++[x]) r)
def nX (o:ObjD):List RelD→List RelD→Int
 | _,[]=>0
 | p,x::r=>orE (sH o p (fg x.sym o.ce) x) (nX o (p++[x]) r)
def lu:List (List UInt8)→List (List UInt8)→Int
 | _,[]=>0
 | p,x::r=>orE (eR x) (orE (if p.contains x=true then 38 else 0) (lu (p++[x]) r))
def tS (o:ObjD):Int:=match fnd o.entry o.ce with
 | none=>if o.entry=[] then 0 else 22
 | some j=>if o.entry=[] then 0 else match o.ce[j]? with
  | none=>0
  | some s=>if s.sec=0∨s.cn=false then 22 else 0
def ig (o:ObjD):Int:=orE (uu o) (orE (oH [o.name,o.entry]) (orE (lH o [] o.ce) (orE (nX o [] o.ci) (orE (lu [] o.cf) (tS o)))))
structure Fits (o:ObjD):Prop where
 code:o.code.length<2^40
 data:o.data.length<2^40
 ce:o.ce.length<2^40
 ci:o.ci.length<2^40
 cf:o.cf.length<2^40
theorem Js {h:H} {c:Oc} {o:ObjD} (ob:Ob g h (·<h.bX) c o) (fit:Fits o):WF (E g) 31 [.agg (c.cells o)] h fun v h'=>v=i64 (ig o)∧cH h h':=by
 have fs:=fit.ce;have fr:=fit.ci;have fn:=fit.cf;refine WF.enter fn31 rfl ?_;refine au ?_;refine eI (v:=.agg (c.cells o)) (by (try simp only [aE,rL,rD,rB,reduceIte])) ?_;intro h1 b1 n1 f1;refine az ?_;have B1:Has h1 h.bX (c.cells o):=b1;have b1:Has h1 h.bX [.str o.name,c.code,c.data,c.ce,c.ci,c.cf,.str o.entry]:=b1;have ob1:=(ob.fix f1 (fun _ h=>h)).up (K':=(·<h1.bX)) (fun _ h=>by omega);refine au ?_
 refine (GT B1 ob1).mono fun v h2 ⟨e2,f2⟩=>?_;subst e2;refine ax ?_;(try simp only [aE,rL,rD,rB,reduceIte,i64]);refine aw ?_
 rcases (bz (uu o=0)).symm with hlim|hlim
 ·refine WC.cond (b:=true) (by (try simp only [aE,rL,rD,rB,reduceIte,hlim]);(try simp);(try omega)) ?_;refine au ?_;refine WC.ret ?_;refine az ?_;exact ⟨by rw [ig,dH hlim]<;>rfl,f1.trans (f2.sub fun x hx=>by omega)⟩
 refine WC.cond (b:=false) (by (try simp only [aE,rL,rD,rB,reduceIte,hlim]);(try simp);(try omega)) (WC.skip ?_);refine az ?_;have F2:cH h h2:=f1.trans (f2.sub fun x hx=>by omega);have b2:=b1.fix f2;have x2:=f2.bX;refine ap ?_;(try simp only [aE,rL,rD,rB,reduceIte,fa77_0,oL,aH,b2.at ty9 rfl])
 refine de (sz:=1) (n:=2) (cs:=[V.str o.name,V.str o.entry]) cD rfl ty9 rfl (by decide) (by decide) ?_ rfl ?_
 ·rfl
 intro h3 b3 n3 f3;have r3:Ss g h3 (.slice h2.bX 0 2 (.lit 2)) [o.name,o.entry]:=b3.sl;(try simp only [aE,rL,rD,rB,reduceIte,Sl.lenB r3 cD rfl]);refine ao ?_;have F3:cH h h3:=F2.trans (f3.sub fun x hx=>by omega);have hce:ig o=orE (oH [o.name,o.entry]) (orE (lH o [] o.ce) (orE (nX o [] o.ci) (orE (lu [] o.cf) (tS o)))):=by rw [ig,jy hlim]
 refine WC.while (fun m fr hh=>∃ts i,fr=⟨ts,123,[],31,none⟩∧hh=h3∧m=2 - i∧i≤2∧ts.get 1=some (.ptr h.bX 0)∧ts.get 26=some (.slice h2.bX 0 2 (.lit 2))∧ts.get 27=some (.int .i64 2)∧ts.get 28=some (.int .i64 i)∧oH ([o.name,o.entry].drop i)=oH [o.name,o.entry]) ?_ ⟨_,0,rfl,rfl,rfl,by omega,?_,?_,?_,?_,rfl⟩
 ·rintro m fr hh ⟨ts,i,rfl,rfl,rfl,hi,t1,t26,t27,t28,hr⟩
  have bb:=b2.fix f3;refine ap ?_;(try simp only [aE,rL,rD,rB,reduceIte,t27,t28]);refine aw ?_
  by_cases hlt:i<2
  ·refine aG (WC.skip ?_);refine az ?_;have hl2:i<[o.name,o.entry].length:=hlt;obtain ⟨p,p1,p2⟩:=r3.at cD rfl ty9 rfl rfl hl2;have p2:=p2 hh fun _ _ _ _ _=>rfl;rw [List.drop_eq_getElem_cons hl2,oH] at hr;refine ao ?_;refine ap ?_;(try simp only [aE,rL,rD,rB,reduceIte,t26,t28,p1,p2]);refine au ?_;refine tG.mono fun v h4 ⟨e4,e4'⟩=>?_;subst e4 e4';refine ay ?_;refine aw ?_
   rcases (bz (mW [o.name,o.entry][i]=0)).symm with hn|hn
   ·refine WC.cond (b:=true) (by (try simp only [aE,rL,rD,rB,reduceIte,hn]);(try simp);(try omega)) ?_;refine au ?_;refine WC.ret ?_;refine az ?_;rw [dH hn] at hr;exact ⟨by rw [hce,←hr,dH hn]<;>rfl,F3⟩
   ·refine WC.cond (b:=false) (by (try simp only [aE,rL,rD,rB,reduceIte,hn]);(try simp);(try omega)) (WC.skip ?_);refine ax ?_;(try simp only [aE,rL,rD,rB,reduceIte,t28,ct]);rw [jy hn] at hr
    refine ⟨_,?_,_,i+1,rfl,by trivial,rfl,by omega,?_⟩
    ·omega
    (try simp only [aE,rL,rD,rB,reduceIte,t1,t26,t27]);refine ⟨aD,aD,aD,?_,hr⟩;rw [cy (by omega) (by omega)];rfl
  ·refine aF (WC.exit ?_);have:i=2:=by omega
   subst this;have hr:(0:Int)=oH [o.name,o.entry]:=hr;rw [jy hr.symm] at hce;refine az ?_;have ob3:=(ob1.fix f2 (fun _ h=>h)).fix f3 (fun _ h=>by omega);refine au ?_;refine AK ?_;intro h4 m4 n4 f4;refine az ?_;have F4:cH h h4:=F3.trans (f4.sub fun x hx=>by omega);have ob4:=ob3.fix f4 (fun _ h=>by omega);have b4:=bb.fix f4;refine ap ?_;(try simp only [aE,rL,rD,rB,reduceIte,t1,pO,aH,b4.at oO rfl,Sl.lenB ob4.ce oO rfl])
   refine ao ?_;generalize hmb:hh.bX=mb at *;have hlow:h.bX<mb:=by omega
   refine WC.while (fun m fr hk=>∃ts i,fr=⟨ts,123,[],31,none⟩∧Fix (fun x=>x<h4.bX∧x≠mb) h4 hk∧m=o.ce.length - i∧i≤o.ce.length∧ts.get 1=some (.ptr h.bX 0)∧ts.get 7=some (.map mb)∧ts.get 40=some c.ce∧ts.get 41=some (.int .i64 o.ce.length)∧ts.get 42=some (.int .i64 i)∧Mp hk mb (tab 0 (o.ce.take i))∧lH o (o.ce.take i) (o.ce.drop i)=lH o [] o.ce) ?_ ⟨_,0,rfl,Fix.refl _ _,rfl,by omega,?_,?_,?_,?_,?_,m4,rfl⟩
   ·rintro m fr hk ⟨ts,i,rfl,ff,rfl,hi,t1,t7,t40,t41,t42,mp,hr⟩
    have xk:=ff.bX;have bk:=b4.fix ff ⟨by omega,by omega⟩;have obk:=(ob4.fix ff (fun x hx=>⟨by omega,by omega⟩));refine ap ?_;(try simp only [aE,rL,rD,rB,reduceIte,t41,t42]);refine aw ?_
    by_cases hlt:i<o.ce.length
    ·refine aG (WC.skip ?_);refine az ?_;obtain ⟨p,p1,p2⟩:=obk.ce.at (fun _=>rfl) oO rfl j5 rfl (by decide) rfl hlt;have p2:=p2 hk fun _ _ _ _ _=>rfl;rw [List.drop_eq_getElem_cons hlt,lH] at hr;generalize hx:o.ce[i]=x at *;refine ao ?_;refine ap ?_;(try simp only [aE,rL,rD,rB,reduceIte,t40,t42,p1,p2]);refine cz j5 ?_;intro h5 b5 n5 f5;refine az ?_;refine cq b5 j5 rfl (by decide) rfl ?_;intro h6 b6 n6 f6
     have b6:Has h6 hk.bX (iD x):=b6;have Fk:Fix (fun x=>x<hk.bX) hk h6:=⟨by omega,fun c hc=>by rw [f6.ca c (by omega),f5.ca c hc]⟩;have mp6:=mp.fix Fk;have B6:Has h6 h.bX (c.cells o):=bk.fix Fk;have ob6:=(obk.fix Fk (fun x hx=>by omega)).up (K':=(·<h6.bX)) (fun x hx=>by omega);refine az ?_;have lx:cx (E g) h6 95 (.ptr hk.bX 0)=some (.agg (iD x)):=b6.agg j5 rfl (o:=0) (by show 0+5≤5;decide);refine ap ?_
     (try simp only [aE,rL,rD,rB,reduceIte,t1,t7,lx]);refine (FQ (x:=x) B6 (by omega) ob6 mp6 (by omega)).mono fun v h7 ⟨e7,f7⟩=>?_;subst e7;rw [ut];refine az ?_;have Fk7:Fix (fun x=>x<h4.bX∧x≠mb) h4 h7:=⟨by have:=f7.bX;omega,fun c hc=>by rw [f7.ca c (by omega),Fk.ca c (by omega),ff.ca c hc]⟩;refine ap ?_;(try simp only [aE,rL,rD,rB,reduceIte,i64]);refine aw ?_
     rcases (bz (oP o x (fg x.name (o.ce.take i))=0)).symm with hn|hn
     ·refine WC.cond (b:=true) (by (try simp only [aE,rL,rD,rB,reduceIte,hn]);(try simp);(try omega)) ?_;refine au ?_;refine WC.ret ?_;refine az ?_;rw [dH hn] at hr;exact ⟨by rw [hce,←hr,dH hn]<;>rfl,F4.trans (Fk7.sub fun x hx=>⟨by omega,by omega⟩)⟩
     ·refine WC.cond (b:=false) (by (try simp only [aE,rL,rD,rB,reduceIte,hn]);(try simp);(try omega)) (WC.skip ?_);refine az ?_
      have hno:fg x.name (o.ce.take i)=false:=by
       cases hq:fg x.name (o.ce.take i) with
       | false=>rfl
       | true =>
        rw [hq] at hn;unfold oP at hn
        split at hn
        ·contradiction
        ·simp at hn
      have hno':lk x.name (tab 0 (o.ce.take i))=none:=by
       rw [←ut] at hno
       cases hq:lk x.name (tab 0 (o.ce.take i)) with
       | none=>rfl
       | some v=>rw [hq] at hno;cases hno
      have b7:=b6.fix f7;have mp7:=mp6.fix f7;refine ap ?_;have l7:cx (E g) h7 9 (.ptr hk.bX 0)=some (.str x.name):=b7.at ty9 rfl 0;(try simp only [aE,rL,rD,rB,reduceIte,t7,kf,aH,l7,iA]);refine CS mp7 ty168 rfl ty9 rfl ty3 ?_;intro h8 m8 n8 f8;refine az ?_;rw [B4 hno'] at m8;refine ap ?_;(try simp only [aE,rL,rD,rB,reduceIte,t42,ct]);rw [jy hn] at hr
      refine ⟨_,?_,_,i+1,rfl,⟨by have:=f7.bX;omega,fun c hc=>by rw [f8.ca c (by omega),Fk7.ca c hc]⟩,rfl,by omega,?_⟩
      ·omega
      (try simp only [aE,rL,rD,rB,reduceIte,t1,t7,t40,t41])
      refine ⟨aD,aD,aD,aD,?_,?_,?_⟩
      ·rw [cy (by omega) (by omega)];rfl
      ·rw [bW hlt,AQ,hx];rw [List.length_take,Nat.min_eq_left hi,aH];exact m8
      ·rw [bW hlt,hx];exact hr
    ·refine aF (WC.exit ?_);have:i=o.ce.length:=by omega
     subst this;rw [bU,lH] at hr;rw [bv] at mp;rw [jy hr.symm] at hce;refine az ?_;have F5:cH h hk:=F4.trans (ff.sub fun x hx=>⟨by omega,by omega⟩);have obk:=obk.up (K':=(·<hk.bX)) (fun x hx=>by omega);have Bk:Has hk h.bX (c.cells o):=bk;refine ap ?_;(try simp only [aE,rL,rD,rB,reduceIte,t1,qL,aH,bk.at mF rfl,Sl.lenB obk.ci mF rfl]);refine ao ?_
     refine WC.while (fun m fr hj=>∃ts i,fr=⟨ts,123,[],31,none⟩∧Fix (·<hk.bX) hk hj∧m=o.ci.length - i∧i≤o.ci.length∧ts.get 1=some (.ptr h.bX 0)∧ts.get 7=some (.map mb)∧ts.get 59=some c.ci∧ts.get 60=some (.int .i64 o.ci.length)∧ts.get 61=some (.int .i64 i)∧nX o (o.ci.take i) (o.ci.drop i)=nX o [] o.ci) ?_ ⟨_,0,rfl,Fix.refl _ _,rfl,by omega,?_,?_,?_,?_,?_,rfl⟩
     ·rintro m fr hj ⟨ts,i,rfl,ff2,rfl,hi,t1,t7,t59,t60,t61,hr⟩
      have xj:=ff2.bX;have mj:=mp.fix ff2;have Bj:=Bk.fix ff2;have bj:Has hj h.bX [.str o.name,c.code,c.data,c.ce,c.ci,c.cf,.str o.entry]:=Bj;have obj:=(obk.fix ff2 (fun x hx=>hx)).up (K':=(·<hj.bX)) (fun x hx=>by omega);have F6:cH h hj:=F5.trans (ff2.sub fun x hx=>by omega);refine ap ?_;(try simp only [aE,rL,rD,rB,reduceIte,t60,t61]);refine aw ?_
      by_cases hlt:i<o.ci.length
      ·refine aG (WC.skip ?_);refine az ?_;rw [List.drop_eq_getElem_cons hlt,nX] at hr;refine ao ?_;refine ap ?_;(try simp only [aE,rL,rD,rB,reduceIte,t61]);refine ap ?_;(try simp only [aE,rL,rD,rB,reduceIte,t1,t7]);refine (Ii Bj (by omega) obj mj (by omega) hlt fit.ci fit.code fit.data).mono fun v h7 ⟨e7,f7⟩=>?_;subst e7;rw [ut];refine ax ?_;(try simp only [aE,rL,rD,rB,reduceIte,i64]);refine aw ?_
       have F7:Fix (·<hk.bX) hk h7:=⟨by have:=f7.bX;omega,fun c hc=>by rw [f7.ca c (by omega),ff2.ca c hc]⟩
       rcases (bz (sH o (o.ci.take i) (fg o.ci[i].sym o.ce) o.ci[i]=0)).symm with hn|hn
       ·refine WC.cond (b:=true) (by (try simp only [aE,rL,rD,rB,reduceIte,hn]);(try simp);(try omega)) ?_;refine au ?_;refine WC.ret ?_;refine az ?_;rw [dH hn] at hr;exact ⟨by rw [hce,←hr,dH hn]<;>rfl,F5.trans (F7.sub fun x hx=>by omega)⟩
       ·refine WC.cond (b:=false) (by (try simp only [aE,rL,rD,rB,reduceIte,hn]);(try simp);(try omega)) (WC.skip ?_);refine az ?_;rw [jy hn] at hr;refine ap ?_;(try simp only [aE,rL,rD,rB,reduceIte,t61,ct])
        refine ⟨_,?_,_,i+1,rfl,F7,rfl,by omega,?_⟩
        ·omega
        (try simp only [aE,rL,rD,rB,reduceIte,t1,t7,t59,t60])
        refine ⟨aD,aD,aD,aD,?_,?_⟩
        ·rw [cy (by omega) (by omega)];rfl
        ·rw [bW hlt];exact hr
      ·refine aF (WC.exit ?_);have:i=o.ci.length:=by omega
       subst this;rw [bU,nX] at hr;rw [jy hr.symm] at hce;refine ax ?_;(try simp only [aE,rL,rD,rB,reduceIte,t1,An,aH,bj.at cD rfl,Sl.lenB obj.cf cD rfl]);refine ao ?_
       refine WC.while (fun m fr he=>∃ts i,fr=⟨ts,123,[],31,none⟩∧he=hj∧m=o.cf.length - i∧i≤o.cf.length∧ts.get 1=some (.ptr h.bX 0)∧ts.get 7=some (.map mb)∧ts.get 72=some c.cf∧ts.get 73=some (.int .i64 o.cf.length)∧ts.get 74=some (.int .i64 i)∧lu (o.cf.take i) (o.cf.drop i)=lu [] o.cf) ?_ ⟨_,0,rfl,rfl,rfl,by omega,?_,?_,?_,?_,?_,rfl⟩
       ·rintro m fr he ⟨ts,i,rfl,rfl,rfl,hi,t1,t7,t72,t73,t74,hr⟩
        refine ap ?_;(try simp only [aE,rL,rD,rB,reduceIte,t73,t74]);refine aw ?_
        by_cases hlt:i<o.cf.length
        ·refine aG (WC.skip ?_);refine az ?_;obtain ⟨p,p1,p2⟩:=obj.cf.at cD rfl ty9 rfl rfl hlt;have p2:=p2 he fun _ _ _ _ _=>rfl;rw [List.drop_eq_getElem_cons hlt,lu] at hr;refine ao ?_;refine ap ?_;(try simp only [aE,rL,rD,rB,reduceIte,t72,t74,p1,p2]);refine au ?_;refine tG.mono fun v h7 ⟨e7,e7'⟩=>?_;subst e7 e7';refine ay ?_;refine aw ?_
         rcases (bz (eR o.cf[i]=0)).symm with hn|hn
         ·refine WC.cond (b:=true) (by (try simp only [aE,rL,rD,rB,reduceIte,hn]);(try simp);(try omega)) ?_;refine au ?_;refine WC.ret ?_;refine az ?_;rw [dH hn] at hr;exact ⟨by rw [hce,←hr,dH hn]<;>rfl,F6⟩
         ·refine WC.cond (b:=false) (by (try simp only [aE,rL,rD,rB,reduceIte,hn]);(try simp);(try omega)) (WC.skip ?_);refine az ?_;rw [jy hn] at hr;obtain ⟨s',q1,q2,q3,_⟩:=Sl.sub obj.cf cD rfl (cL ty9) (lo:=none) (hi:=some i) (l:=0) (r:=i) rfl rfl (Nat.zero_le _) (by omega)
          have q2:Ss g h7 s' (o.cf.take i):=by
           have e:(o.cf.take i).length=i:=by simp;omega
           unfold Ss Vs;rw [e,List.map_take];simpa using q2
          have q1:eL (E g) 30 c.cf none (some (.int .i64 i)) none=some s':=q1;refine ap ?_;(try simp only [aE,rL,rD,rB,reduceIte,t1,An,aH,bj.at cD rfl,q1]);refine (pS q2 (by simp;omega)).mono fun v h8 ⟨e8,e8'⟩=>?_;subst e8 e8';refine az ?_;refine aw ?_
          cases hc:(o.cf.take i).contains o.cf[i] with
          | true =>
           refine WC.cond (b:=true) (by (try simp only [aE,rL,rD,rB,reduceIte,hc]);(try simp);(try omega)) ?_;refine au ?_;refine WC.ret ?_;refine az ?_;rw [hc,if_pos rfl,dH (by decide)] at hr;exact ⟨by rw [hce,←hr,dH (by decide)]<;>rfl,F6⟩
          | false =>
           refine WC.cond (b:=false) (by (try simp only [aE,rL,rD,rB,reduceIte,hc]);(try simp);(try omega)) (WC.skip ?_);refine az ?_;rw [hc,if_neg (by simp),jy rfl] at hr;refine ap ?_;(try simp only [aE,rL,rD,rB,reduceIte,t74,ct])
           refine ⟨_,?_,_,i+1,rfl,by trivial,rfl,by omega,?_⟩
           ·omega
           (try simp only [aE,rL,rD,rB,reduceIte,t1,t7,t72,t73])
           refine ⟨aD,aD,aD,aD,?_,?_⟩
           ·rw [cy (by omega) (by omega)];rfl
           ·rw [bW hlt];exact hr
        ·refine aF (WC.exit ?_);have:i=o.cf.length:=by omega
         subst this;rw [bU,lu] at hr;rw [jy hr.symm] at hce;refine az ?_;rw [hce];have hz:∀n:Int,(V.bool (n==0))=.bool (decide (n=0)):=fun n=>by congr 1
         refine ap ?_;(try simp only [aE,rL,rD,rB,reduceIte,t1,t7,oL,aH,bj.at ty9 rfl,dj,uq mj,Dl]);have lS:cx (E g) he 74 (.ptr h.bX 3)=some c.ce:=bj.at oO rfl 3;have lE:cx (E g) he 9 (.ptr h.bX 6)=some (.str o.entry):=bj.at ty9 rfl 6
         cases hen:o.entry with
         | nil =>
          rw [hen] at lE
          have hn0:tS o=0:=by
           unfold tS
           cases fnd o.entry o.ce with
           | none=>simp [hen]
           | some j=>simp [hen]
          refine ap ?_;(try simp only [aE,rL,rD,rB,reduceIte,t1,oL,aH,lE,eT,beq_self_eq_true,aV]);refine aw ?_;refine aF (WC.skip ?_);refine ay ?_;refine WC.ret ?_;refine az ?_;exact ⟨by rw [hn0]<;>rfl,F6⟩
         | cons ch rest =>
          rw [hen] at lE;have hbe:((ch::rest)==([]:List UInt8))=false:=rfl
          cases hf:fnd (ch::rest) o.ce with
          | none =>
           have hn0:tS o=22:=by
            unfold tS;rw [hen,hf];simp
           refine ap ?_;(try simp only [aE,rL,rD,rB,reduceIte,t1,oL,aH,lE,eT,hbe,bE,Option.map_none,Option.isSome_none,cY]);refine aw ?_;refine aG ?_;refine au ?_;refine WC.ret ?_;refine az ?_;exact ⟨by rw [hn0]<;>rfl,F6⟩
          | some j =>
           obtain ⟨hj1,hj2⟩:=qJ hf
           have hent:tS o=if o.ce[j].sec=0∨o.ce[j].cn=false then 22 else 0:=by
            unfold tS;rw [hen,hf];simp only [List.getElem?_eq_getElem hj1];rw [if_neg (by simp)]
           rw [hent];obtain ⟨mk,po,hmk,p1,p2⟩:=Rcs.spot obj.ce (fun _=>rfl) oO rfl j5 rfl (by decide) hj1;have p2:=p2 he fun _ _ _ _ _=>rfl;have a1:cu (E g) 95 (mk po) 1=some (mk (po+1)):=by rcases hmk with ⟨b,hb⟩|⟨b,hb⟩<;>simp only [hb,eV,fg95_1]
           have a3:cu (E g) 95 (mk po) 3=some (mk (po+3)):=by rcases hmk with ⟨b,hb⟩|⟨b,hb⟩<;>simp only [hb,pN,fg95_3]
           have l1:cx (E g) he 3 (mk (po+1))=some (.int .i64 o.ce[j].sec):=p2 1 (by decide) 3 _ ty3 rfl;have l3:cx (E g) he 4 (mk (po+3))=some (.bool o.ce[j].cn):=p2 3 (by decide) 4 _ ty4 rfl;generalize o.ce[j]=s at *
           rcases bz (s.sec=0) with k1|k1
           ·refine ap ?_;(try simp only [aE,rL,rD,rB,reduceIte,t1,pO,oL,aH,lE,lS,eT,hbe,bE,aV,bo,bF,Option.getD_some,cY,p1,a1,a3,l1,l3,hz,aJ k1]);refine aw ?_;refine WC.cond (b:=true) (by (try simp only [aE,rL,rD,rB,reduceIte,aJ k1]);(try simp);(try omega)) ?_;refine au ?_;refine WC.ret ?_;refine az ?_;exact ⟨by rw [if_pos (by simp [k1])]<;>rfl,F6⟩
           rcases (bg (s.cn)).symm with k2|k2
           ·refine ap ?_;(try simp only [aE,rL,rD,rB,reduceIte,t1,pO,oL,aH,lE,lS,eT,hbe,bE,aV,bo,bF,Option.getD_some,cY,p1,a1,a3,l1,l3,hz,aK k1,k2]);refine aw ?_;refine WC.cond (b:=true) (by (try simp only [aE,rL,rD,rB,reduceIte,aK k1,k2]);(try simp);(try omega)) ?_;refine au ?_;refine WC.ret ?_;refine az ?_;exact ⟨by rw [if_pos (by simp [k1,k2])]<;>rfl,F6⟩
           refine ap ?_;(try simp only [aE,rL,rD,rB,reduceIte,t1,pO,oL,aH,lE,lS,eT,hbe,bE,aV,bo,bF,Option.getD_some,cY,p1,a1,a3,l1,l3,hz,aK k1,k2]);refine aw ?_;refine WC.cond (b:=false) (by (try simp only [aE,rL,rD,rB,reduceIte,aK k1,k2]);(try simp);(try omega)) (WC.skip ?_);refine ay ?_;refine WC.ret ?_;refine az ?_;exact ⟨by rw [if_neg (by simp [k1,k2])]<;>rfl,F6⟩
       all_goals (try simp only [aE,rL,rD,rB,reduceIte,t1,t7])
       all_goals (first|trivial|rfl|simp)
     all_goals (try simp only [aE,rL,rD,rB,reduceIte,t1,t7])
     all_goals (first|trivial|rfl|simp)
   all_goals (try simp only [aE,rL,rD,rB,reduceIte,t1])
   all_goals (first|trivial|rfl|simp)
 all_goals (try simp only [aE,rL,rD,rB,reduceIte])
 all_goals (first|trivial|rfl|simp)
abbrev Is (g:T (List V)) (h:H) (s:V) (L:List Int):Prop:=Vs (E g) h i64 s L
def Wr (g:T (List V)) (h:H) (S:Nat→Prop) (wb:Nat) (xs:List UInt8):Prop:=∃s,Has h wb [s]∧nM g h s xs∧In (fun b=>S b∧b≠wb∧b<h.bX) s
theorem Wr.sub {h:H} {S S':Nat→Prop} {wb:Nat} {xs:List UInt8} (w:Wr g h S wb xs) (hs:∀b,b<h.bX→S b→S' b):Wr g h S' wb xs:=by
 obtain ⟨s,a1,a2,a3⟩:=w;exact ⟨s,a1,a2,a3.sub fun b hb=>⟨hs b hb.2.2 hb.1,hb.2.1,hb.2.2⟩⟩
theorem Wr.fix {h h':H} {S K:Nat→Prop} {wb:Nat} {xs:List UInt8} (w:Wr g h S wb xs) (f:Fix K h h') (hw:K wb) (hs:∀b,b<h.bX→S b→K b):Wr g h' S wb xs:=by
 obtain ⟨s,a1,a2,a3⟩:=w;exact ⟨s,a1.fix f hw,a2.fix (K:=K) (a3.sub fun b hb=>hs b hb.2.2 hb.1) f,a3.sub fun b hb=>⟨hb.1,hb.2.1,Nat.lt_of_lt_of_le hb.2.2 f.bX⟩⟩
def fT (L:List Int):List UInt8:=L.flatMap fun n=>leB (U n) 8
theorem cO:∀(L:List Int),(fT L).length=8 * L.length
 | []=>rfl
 | n::r=>by
  have:=cO r;simp only [fT,bM,aQ,dw,aO] at *;omega
theorem GQ {L:List Int} {i:Nat} (hi:i<L.length):fT (L.take (i+1))=fT (L.take i)++leB (U L[i]) 8:=by
 unfold fT;rw [bW hi,List.flatMap_append,bM,List.flatMap_nil,List.append_nil]
theorem wT {h:H} {S:Nat→Prop} {wb:Nat} {xs:List UInt8} {ls:V} {L:List Int} (w:Wr g h S wb xs) (hwb:wb<h.bX) (hl:Is g h ls L) (hin:In (fun b=>b<h.bX∧b≠wb∧¬S b) ls) (hx:xs.length+8 * L.length≤2^38) :
  WF (E g) 54 [.ptr wb 0,ls] h fun _ h'=>Wr g h' (fun b=>S b∨h.bX≤b) wb (xs++fT L)∧Fix (fun b=>b<h.bX∧b≠wb∧¬S b) h h':=by
 refine WF.enter fn54 rfl ?_;refine ap ?_;(try simp only [aE,rL,rD,rB,reduceIte,Sl.lenB hl ti rfl]);refine ao ?_
 refine WC.while (fun m fr hh=>∃ts i,fr=⟨ts,24,[],54,none⟩∧Fix (fun b=>b<h.bX∧b≠wb∧¬S b) h hh∧m=L.length - i∧i≤L.length∧ts.get 0=some (.ptr wb 0)∧ts.get 6=some ls∧ts.get 7=some (.int .i64 L.length)∧ts.get 8=some (.int .i64 i)∧Wr g hh (fun b=>S b∨h.bX≤b) wb (xs++fT (L.take i))) ?_ ⟨_,0,rfl,Fix.refl _ _,rfl,by omega,?_,?_,?_,?_,?_⟩
 ·rintro m fr hh ⟨ts,i,rfl,ff,rfl,hi,t0,t6,t7,t8,wr⟩
  have xh:=ff.bX;obtain ⟨s,a1,a2,a3⟩:=wr;refine ap ?_;(try simp only [aE,rL,rD,rB,reduceIte,t7,t8]);refine aw ?_
  by_cases hlt:i<L.length
  ·refine aG (WC.skip ?_);refine az ?_;obtain ⟨p,p1,p2⟩:=hl.at ti rfl ty2 rfl rfl hlt;have p2:=p2 hh fun b o m c e=>ff.ca b (hin _ _ _ _ e);refine ao ?_;refine ap ?_;(try simp only [aE,rL,rD,rB,reduceIte,t6,t8,p1,p2,i64])
   ((repeat refine WC.seq ?_);refine WC.draw (plans:=Iw) (by kernel_rfl) ?_;simp only [Iw,ak])
   (try simp (maxSteps:=2000000) only [aE,rL,rD,rB,reduceIte,af,Chk,t0,ol,aH,a1.at cM rfl,ft ty2 rP rfl,mg]);refine zg.mono fun v h1 ⟨e1,f1⟩=>?_;subst e1;have x1:=f1.bX;have c1:=a1.fix f1;have gr:=nM.kept a2 (a3.sub fun b hb=>hb.2.2) f1;(try simp (maxSteps:=2000000) only [aE,rL,rD,rB,reduceIte,af,Chk,t0,ol,aH,c1.at cM rfl,ft ty2 rP rfl,mg]);have hlen:(fT (L.take i)).length≤8 * L.length:=by rw [cO];simp;omega
   refine (JH gr.buf gr.low (U_lt _) (by simp;omega)).mono fun s2 h2 g2=>?_;have g2':=gr.trans g2;have x2:=g2.fix.bX;have c2:=a1.fix g2'.fix ⟨by omega,fun o m cc e=>(a3 _ _ _ _ e).2.1 rfl⟩;(try simp (maxSteps:=2000000) only [aE,rL,rD,rB,reduceIte,af,Chk,t0,ol,aH,c2.at cM rfl])
   have hc:V.cells s2=[s2]∧V.one s2=true:=by
    have:=Sl.len g2'.buf.sl;unfold iu at this
    split at this<;>first|exact ⟨rfl,rfl⟩|cases this
   have in2:In (fun b=>(S b∨h.bX≤b)∧b≠wb∧b<h2.bX) s2:=fun b o n c e=>by
    have q1:=g2'.low _ _ _ _ e
    rcases g2'.own _ _ _ _ e with q|⟨o,k,c,q⟩
    ·exact ⟨.inr (by omega),by omega,q1⟩
    ·have:=a3 _ _ _ _ q;exact ⟨this.1,this.2.1,q1⟩
   refine cq c2 cM (by rw [hc.1];rfl) (by simp) (by rw [hc.1];simp [hc.2]) ?_;intro h3 b3 n3 f3;rw [hc.1] at b3;refine am ?_;refine ap ?_;(try simp only [aE,rL,rD,rB,reduceIte,t8,ct])
   refine ⟨_,?_,_,i+1,rfl,⟨by omega,fun c hc=>?_⟩,rfl,by omega,?_⟩
   ·omega
   ·rw [f3.ca c hc.2.1,g2'.fix.ca c ⟨by omega,fun o m cc e=>?_⟩,ff.ca c hc]
    rcases (a3 _ _ _ _ e).1 with q|q
    ·exact hc.2.2 q
    ·omega
   (try simp only [aE,rL,rD,rB,reduceIte,t0,t6,t7])
   refine ⟨aD,aD,aD,?_,s2,b3,?_,in2.sub fun b hb=>⟨hb.1,hb.2.1,by omega⟩⟩
   ·rw [cy (by omega) (by omega)];rfl
   ·have:=g2'.buf.fix (K:=(·≠wb)) (in2.sub fun b hb=>hb.2.1) f3;rw [GQ hlt,←bV];exact this
  ·refine aF (WC.exit ?_);have:i=L.length:=by omega
   subst this;rw [bv] at a2;refine az ?_;exact ⟨⟨s,a1,a2,a3⟩,ff⟩
 all_goals (try simp only [aE,rL,rD,rB,reduceIte])
 all_goals (first|trivial|rfl|(simp;done)|skip)
 ·exact (by simpa [fT] using w.sub fun b _ hb=>.inl hb)
end Go.Proofs.OP
