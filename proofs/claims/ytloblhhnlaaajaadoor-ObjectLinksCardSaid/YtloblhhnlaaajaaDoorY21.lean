/- Walks: few. -/
import Derived.Test.YtloblhhnlaaajaaDoorY18
set_option maxHeartbeats 8000000
set_option maxRecDepth 100000
set_option linter.unusedVariables false
set_option linter.unusedSimpArgs false
set_option linter.defProp false
namespace Go.Proofs.OP
open Go Go.Ev
open Go.Proofs
open Nat renaming reduceLT → rL, reduceEqDiff → rD, reduceBEq → rB
variable {g : T (List V)}
def zS (s:SymD):Bool := !decide ((200:Int)<s.name.length)
def zT (r:RelD):Bool := !decide ((200:Int)<r.sym.length)
def zU (s:List UInt8):Bool := !decide ((200:Int)<s.length)
def xy (o:ObjD):Bool:=o.ce.all zS&&(o.ci.all zT&&(o.cf.all zU&&(decide ((o.name.length:Int)≤200)&&(decide ((o.entry.length:Int)≤200)&&(decide ((o.code.length:Int)≤400)&&(decide ((o.data.length:Int)≤400)&&(decide ((o.ce.length:Int)≤30)&&(decide ((o.ci.length:Int)≤30)&&decide ((o.cf.length:Int)≤22)))))))))
theorem uK {α:Type} {p:α→Bool} {L:List α} {i:Nat} (hi:i<L.length) (h:p L[i]=false):L.all p=false:=by
 cases hq:L.all p with
 | false=>rfl
 | true=>rw [bH] at hq;rw [hq _ (aP hi)] at h;cases h
theorem yf {α:Type} {p:α→Bool} {L:List α} {i:Nat} (hi:i<L.length) (h:(L.take i).all p=true) (hx:p L[i]=true):(L.take (i+1)).all p=true:=by
 rw [bW hi,List.all_append,h];simp [hx]
structure Room (o:ObjD):Prop where
 ce:o.ce.length<2^62
 ci:o.ci.length<2^62
 cf:o.cf.length<2^62
theorem Jk {o:ObjD} (h:xy o=true):Fits o:=by
 simp only [xy,aU,decide_eq_true_eq] at h;obtain ⟨-,-,-,-,-,h1,h2,h3,h4,h5⟩:=h;exact ⟨by omega,by omega,by omega,by omega,by omega⟩
theorem few_ok {h:H} {c:Oc} {o:ObjD} (ob:Ob g h (·<h.bX) c o) (fit:Room o):WF (E g) 22 [.agg (c.cells o)] h fun v h'=>v=.bool (xy o)∧cH h h':=by
 have fs:=fit.ce;have fr:=fit.ci;have fn:=fit.cf;refine WF.enter fn22 rfl ?_;refine au ?_;refine eI (v:=.agg (c.cells o)) (by (try simp only [aE,rL,rD,rB,reduceIte])) ?_;intro h1 b1 n1 f1;refine az ?_;have b1:Has h1 h.bX [.str o.name,c.code,c.data,c.ce,c.ci,c.cf,.str o.entry]:=b1;have ob1:=(ob.fix f1 (fun _ h=>h)).up (K':=(·<h1.bX)) (fun _ h=>by omega);refine ap ?_;(try simp only [aE,rL,rD,rB,reduceIte,iw,aH,b1.at gu rfl,Sl.lenB ob1.ce gu rfl])
 refine ao ?_
 refine WC.while (fun m fr hh=>∃ts i,fr=⟨ts,84,[],22,none⟩∧Fix (·<h1.bX) h1 hh∧m=o.ce.length - i∧i≤o.ce.length∧ts.get 1=some (.ptr h.bX 0)∧ts.get 10=some c.ce∧ts.get 11=some (.int .i64 o.ce.length)∧ts.get 12=some (.int .i64 i)∧(o.ce.take i).all zS=true) ?_ ⟨_,0,rfl,Fix.refl _ _,rfl,by omega,?_,?_,?_,?_,rfl⟩
 ·rintro m fr hh ⟨ts,i,rfl,ff,rfl,hi,t1,t10,t11,t12,hal⟩
  have xh:=ff.bX;have K1:cH h hh:=f1.trans (ff.sub fun x hx=>by omega);have bh:=b1.fix ff;have obh:=(ob1.fix ff (fun x hx=>hx)).up (K':=(·<hh.bX)) (fun x hx=>by omega);refine ap ?_;(try simp only [aE,rL,rD,rB,reduceIte,t11,t12]);refine aw ?_
  by_cases hlt:i<o.ce.length
  ·refine aG (WC.skip ?_);refine az ?_;obtain ⟨p,p1,p2⟩:=obh.ce.at (fun _=>rfl) gu rfl eg rfl (by decide) rfl hlt;have p2:=p2 hh fun _ _ _ _ _=>rfl;refine ao ?_;refine ap ?_;(try simp only [aE,rL,rD,rB,reduceIte,t10,t12,p1,p2]);refine cz eg ?_;intro h5 b5 n5 f5;refine az ?_;refine cq b5 eg rfl (by decide) rfl ?_;intro h6 b6 n6 f6;have b6:Has h6 hh.bX (iD o.ce[i]):=b6;have F6:Fix (·<h1.bX) h1 h6:=⟨by omega,fun c hc=>by rw [f6.ca c (by omega),f5.ca c (by omega),ff.ca c hc]⟩
   have l6:cx (E g) h6 9 (.ptr hh.bX 0)=some (.str o.ce[i].name):=b6.at ty9 rfl 0;refine ax ?_;(try simp only [aE,rL,rD,rB,reduceIte,ry,aH,l6,gT]);refine aw ?_
   by_cases hg:(200:Int)<o.ce[i].name.length
   ·refine aG ?_;refine au ?_;refine WC.ret ?_;refine az ?_;refine ⟨?_,f1.trans (F6.sub fun x hx=>by omega)⟩;rw [xy,uK hlt (by simp [zS,hg]),Bool.false_and]
   ·refine aF (WC.skip ?_);refine ax ?_;(try simp only [aE,rL,rD,rB,reduceIte,t12,ct])
    refine ⟨_,?_,_,i+1,rfl,F6,rfl,by omega,?_⟩
    ·omega
    (try simp only [aE,rL,rD,rB,reduceIte,t1,t10,t11]);refine ⟨aD,aD,aD,?_,yf hlt hal (by simp [zS,hg])⟩;rw [cy (by omega) (by omega)];rfl
  ·refine aF (WC.exit ?_);have:i=o.ce.length:=by omega
   subst this;rw [bv] at hal;refine az ?_;have K2:cH h hh:=K1;refine ap ?_;(try simp only [aE,rL,rD,rB,reduceIte,t1,iv,aH,bh.at gt rfl,Sl.lenB obh.ci gt rfl]);refine ao ?_;have hal1:=hal
   refine WC.while (fun m fr hk=>∃ts i,fr=⟨ts,84,[],22,none⟩∧Fix (·<hh.bX) hh hk∧m=o.ci.length - i∧i≤o.ci.length∧ts.get 1=some (.ptr h.bX 0)∧ts.get 22=some c.ci∧ts.get 23=some (.int .i64 o.ci.length)∧ts.get 24=some (.int .i64 i)∧(o.ci.take i).all zT=true) ?_ ⟨_,0,rfl,Fix.refl _ _,rfl,by omega,?_,?_,?_,?_,rfl⟩
   ·rintro m fr hk ⟨ts,i,rfl,fk,rfl,hi,t1,t22,t23,t24,hal⟩
    have xk:=fk.bX;have K3:cH h hk:=K2.trans (fk.sub fun x hx=>by omega);have bk:=bh.fix fk;have obk:=(obh.fix fk (fun x hx=>hx)).up (K':=(·<hk.bX)) (fun x hx=>by omega);refine ap ?_;(try simp only [aE,rL,rD,rB,reduceIte,t23,t24]);refine aw ?_
    by_cases hlt:i<o.ci.length
    ·refine aG (WC.skip ?_);refine az ?_;obtain ⟨p,p1,p2⟩:=obk.ci.at (fun _=>rfl) gt rfl ii rfl (by decide) rfl hlt;have p2:=p2 hk fun _ _ _ _ _=>rfl;refine ao ?_;refine ap ?_;(try simp only [aE,rL,rD,rB,reduceIte,t22,t24,p1,p2]);refine cz ii ?_;intro h5 b5 n5 f5;refine az ?_;refine cq b5 ii rfl (by decide) rfl ?_;intro h6 b6 n6 f6;have b6:Has h6 hk.bX (oY o.ci[i]):=b6;have F6:Fix (·<hh.bX) hh h6:=⟨by omega,fun c hc=>by rw [f6.ca c (by omega),f5.ca c (by omega),fk.ca c hc]⟩
     have l6:cx (E g) h6 9 (.ptr hk.bX 3)=some (.str o.ci[i].sym):=b6.at ty9 rfl 3;refine ax ?_;(try simp only [aE,rL,rD,rB,reduceIte,oo,aH,l6,gT]);refine aw ?_
     by_cases hg:(200:Int)<o.ci[i].sym.length
     ·refine aG ?_;refine au ?_;refine WC.ret ?_;refine az ?_;refine ⟨?_,K2.trans (F6.sub fun x hx=>by omega)⟩;rw [xy,hal1,uK hlt (by simp [zT,hg]),Bool.false_and,Bool.and_false]
     ·refine aF (WC.skip ?_);refine ax ?_;(try simp only [aE,rL,rD,rB,reduceIte,t24,ct])
      refine ⟨_,?_,_,i+1,rfl,F6,rfl,by omega,?_⟩
      ·omega
      (try simp only [aE,rL,rD,rB,reduceIte,t1,t22,t23]);refine ⟨aD,aD,aD,?_,yf hlt hal (by simp [zT,hg])⟩;rw [cy (by omega) (by omega)];rfl
    ·refine aF (WC.exit ?_);have:i=o.ci.length:=by omega
     subst this;rw [bv] at hal;refine az ?_;have hal2:=hal;refine ap ?_;(try simp only [aE,rL,rD,rB,reduceIte,t1,iW,aH,bk.at cD rfl,Sl.lenB obk.cf cD rfl]);refine ao ?_
     refine WC.while (fun m fr hq=>∃ts i,fr=⟨ts,84,[],22,none⟩∧hq=hk∧m=o.cf.length - i∧i≤o.cf.length∧ts.get 1=some (.ptr h.bX 0)∧ts.get 34=some c.cf∧ts.get 35=some (.int .i64 o.cf.length)∧ts.get 36=some (.int .i64 i)∧(o.cf.take i).all zU=true) ?_ ⟨_,0,rfl,rfl,rfl,by omega,?_,?_,?_,?_,rfl⟩
     ·rintro m fr hq ⟨ts,i,rfl,rfl,rfl,hi,t1,t34,t35,t36,hal⟩
      refine ap ?_;(try simp only [aE,rL,rD,rB,reduceIte,t35,t36]);refine aw ?_
      by_cases hlt:i<o.cf.length
      ·refine aG (WC.skip ?_);refine az ?_;obtain ⟨p,p1,p2⟩:=obk.cf.at cD rfl ty9 rfl rfl hlt;have p2:=p2 hq fun _ _ _ _ _=>rfl;refine ao ?_;refine ap ?_;(try simp only [aE,rL,rD,rB,reduceIte,t34,t36,p1,p2]);refine ap ?_;(try simp only [aE,rL,rD,rB,reduceIte,gT]);refine aw ?_
       by_cases hg:(200:Int)<o.cf[i].length
       ·refine aG ?_;refine au ?_;refine WC.ret ?_;refine az ?_;refine ⟨?_,K3⟩;rw [xy,hal1,hal2,uK hlt (by simp [zU,hg]),Bool.false_and,Bool.and_false,Bool.and_false]
       ·refine aF (WC.skip ?_);refine ax ?_;(try simp only [aE,rL,rD,rB,reduceIte,t36,ct])
        refine ⟨_,?_,_,i+1,rfl,by trivial,rfl,by omega,?_⟩
        ·omega
        (try simp only [aE,rL,rD,rB,reduceIte,t1,t34,t35]);refine ⟨aD,aD,aD,?_,yf hlt hal (by simp [zU,hg])⟩;rw [cy (by omega) (by omega)];rfl
      ·refine aF (WC.exit ?_);have:i=o.cf.length:=by omega
       subst this;rw [bv] at hal;refine az ?_
       have hP:xy o=(decide ((o.name.length:Int)≤200)&&(decide ((o.entry.length:Int)≤200)&&(decide ((o.code.length:Int)≤400)&&(decide ((o.data.length:Int)≤400)&&(decide ((o.ce.length:Int)≤30)&&(decide ((o.ci.length:Int)≤30)&&decide ((o.cf.length:Int)≤22))))))):=by
        rw [xy,hal1,hal2,hal];simp only [Bool.true_and]
       rcases (bz ((o.name.length:Int)≤200)).symm with w1|w1
       ·refine ap ?_;(try simp only [aE,rL,rD,rB,reduceIte,un,t1,nj,jm,jl,iw,iv,iW,hJ,aH,bk.at ty9 rfl,bk.at cM rfl,bk.at gu rfl,bk.at gt rfl,bk.at cD rfl,gT,obk.code.len,obk.data.len,Sl.lenB obk.ce gu rfl,Sl.lenB obk.ci gt rfl,Sl.lenB obk.cf cD rfl,aK w1]);refine aw ?_;refine WC.ret ?_;refine az ?_;refine ⟨?_,K3⟩;rw [hP];simp only [aK w1,Bool.false_and,Bool.true_and]
       rcases (bz ((o.entry.length:Int)≤200)).symm with w2|w2
       ·refine ap ?_;(try simp only [aE,rL,rD,rB,reduceIte,un,t1,nj,jm,jl,iw,iv,iW,hJ,aH,bk.at ty9 rfl,bk.at cM rfl,bk.at gu rfl,bk.at gt rfl,bk.at cD rfl,gT,obk.code.len,obk.data.len,Sl.lenB obk.ce gu rfl,Sl.lenB obk.ci gt rfl,Sl.lenB obk.cf cD rfl,aJ w1,aK w2]);refine aw ?_;refine WC.ret ?_;refine az ?_;refine ⟨?_,K3⟩;rw [hP];simp only [aJ w1,aK w2,Bool.false_and,Bool.true_and]
       rcases (bz ((o.code.length:Int)≤400)).symm with w3|w3
       ·refine ap ?_;(try simp only [aE,rL,rD,rB,reduceIte,un,t1,nj,jm,jl,iw,iv,iW,hJ,aH,bk.at ty9 rfl,bk.at cM rfl,bk.at gu rfl,bk.at gt rfl,bk.at cD rfl,gT,obk.code.len,obk.data.len,Sl.lenB obk.ce gu rfl,Sl.lenB obk.ci gt rfl,Sl.lenB obk.cf cD rfl,aJ w1,aJ w2,aK w3]);refine aw ?_;refine WC.ret ?_;refine az ?_;refine ⟨?_,K3⟩;rw [hP];simp only [aJ w1,aJ w2,aK w3,Bool.false_and,Bool.true_and]
       rcases (bz ((o.data.length:Int)≤400)).symm with w4|w4
       ·refine ap ?_;(try simp only [aE,rL,rD,rB,reduceIte,un,t1,nj,jm,jl,iw,iv,iW,hJ,aH,bk.at ty9 rfl,bk.at cM rfl,bk.at gu rfl,bk.at gt rfl,bk.at cD rfl,gT,obk.code.len,obk.data.len,Sl.lenB obk.ce gu rfl,Sl.lenB obk.ci gt rfl,Sl.lenB obk.cf cD rfl,aJ w1,aJ w2,aJ w3,aK w4]);refine aw ?_;refine WC.ret ?_;refine az ?_;refine ⟨?_,K3⟩;rw [hP];simp only [aJ w1,aJ w2,aJ w3,aK w4,Bool.false_and,Bool.true_and]
       rcases (bz ((o.ce.length:Int)≤30)).symm with w5|w5
       ·refine ap ?_;(try simp only [aE,rL,rD,rB,reduceIte,un,t1,nj,jm,jl,iw,iv,iW,hJ,aH,bk.at ty9 rfl,bk.at cM rfl,bk.at gu rfl,bk.at gt rfl,bk.at cD rfl,gT,obk.code.len,obk.data.len,Sl.lenB obk.ce gu rfl,Sl.lenB obk.ci gt rfl,Sl.lenB obk.cf cD rfl,aJ w1,aJ w2,aJ w3,aJ w4,aK w5]);refine aw ?_;refine WC.ret ?_;refine az ?_;refine ⟨?_,K3⟩;rw [hP];simp only [aJ w1,aJ w2,aJ w3,aJ w4,aK w5,Bool.false_and,Bool.true_and]
       rcases (bz ((o.ci.length:Int)≤30)).symm with w6|w6
       ·refine ap ?_;(try simp only [aE,rL,rD,rB,reduceIte,un,t1,nj,jm,jl,iw,iv,iW,hJ,aH,bk.at ty9 rfl,bk.at cM rfl,bk.at gu rfl,bk.at gt rfl,bk.at cD rfl,gT,obk.code.len,obk.data.len,Sl.lenB obk.ce gu rfl,Sl.lenB obk.ci gt rfl,Sl.lenB obk.cf cD rfl,aJ w1,aJ w2,aJ w3,aJ w4,aJ w5,aK w6]);refine aw ?_;refine WC.ret ?_;refine az ?_;refine ⟨?_,K3⟩;rw [hP];simp only [aJ w1,aJ w2,aJ w3,aJ w4,aJ w5,aK w6,Bool.false_and,Bool.true_and]
       refine ap ?_;(try simp only [aE,rL,rD,rB,reduceIte,un,t1,nj,jm,jl,iw,iv,iW,hJ,aH,bk.at ty9 rfl,bk.at cM rfl,bk.at gu rfl,bk.at gt rfl,bk.at cD rfl,gT,obk.code.len,obk.data.len,Sl.lenB obk.ce gu rfl,Sl.lenB obk.ci gt rfl,Sl.lenB obk.cf cD rfl,aJ w1,aJ w2,aJ w3,aJ w4,aJ w5,aJ w6]);refine aw ?_;refine WC.ret ?_;refine az ?_;refine ⟨?_,K3⟩;rw [hP];simp only [aJ w1,aJ w2,aJ w3,aJ w4,aJ w5,aJ w6,Bool.false_and,Bool.true_and]
     all_goals (try simp only [aE,rL,rD,rB,reduceIte,t1])
     all_goals (first|trivial|rfl|simp)
   all_goals (try simp only [aE,rL,rD,rB,reduceIte,t1])
   all_goals (first|trivial|rfl|simp)
 all_goals (try simp only [aE,rL,rD,rB,reduceIte])
 all_goals (first|trivial|rfl|simp)
theorem xv {k:List UInt8} {x:SymD}:∀{A:List SymD},fnd k A=none→fnd k (A++[x])=if x.name=k then some A.length else none
 | [],_=>by simp [fnd]
 | a::A,h=>by
  simp only [fnd] at h
  split at h
  ·cases h
  ·rename_i ha;have h:=Option.map_eq_none_iff.1 h;simp only [List.cons_append,fnd,if_neg ha,xv h,aO]
   split<;>rfl
theorem zp {k:List UInt8} {x:SymD}:∀{A B:List SymD},fnd k A=none→x.name=k→fnd k (A++x::B)=some A.length
 | [],B,_,hx=>by simp [fnd,hx]
 | a::A,B,h,hx=>by
  simp only [fnd] at h
  split at h
  ·cases h
  ·rename_i ha;have h:=Option.map_eq_none_iff.1 h;simp only [List.cons_append,fnd,if_neg ha,zp h hx,aO,bo]
theorem fnd_at {k:List UInt8} {L:List SymD} {i:Nat} (hi:i<L.length) (h:fnd k (L.take i)=none) (hx:L[i].name=k):fnd k L=some i:=by
 have:=zp (B:=L.drop (i+1)) h hx;rw [←List.drop_eq_getElem_cons hi,List.take_append_drop,List.length_take,Nat.min_eq_left (Nat.le_of_lt hi)] at this;exact this
def HV:SymD:=⟨[],0,0,false,false⟩
def eD (k:List UInt8) (L:List SymD):SymD:=match fnd k L with
 | some j=>(match L[j]? with|some s=>s|none=>HV)
 | none=>HV
theorem sC {h:H} {c:Oc} {o:ObjD} {n:Int}:WF (E g) 63 [.agg (c.cells o),.int .i64 n] h fun v h'=>v=(if n=1 then c.code else c.data)∧cH h h':=by
 refine WF.enter fn63 rfl ?_;refine au ?_;refine eI (v:=.agg (c.cells o)) (by (try simp only [aE,rL,rD,rB,reduceIte])) ?_;intro h1 b1 n1 f1;refine az ?_;have b1:Has h1 h.bX [.str o.name,c.code,c.data,c.ce,c.ci,c.cf,.str o.entry]:=b1;have hz:(V.bool (n==1))=.bool (decide (n=1)):=by congr 1
 refine ap ?_;(try simp only [aE,rL,rD,rB,reduceIte,hz]);refine aw ?_
 by_cases hn:n=1
 ·refine WC.cond (b:=true) (by (try simp only [aE,rL,rD,rB,reduceIte,aJ hn]);(try simp);(try omega)) ?_;refine ap ?_;(try simp only [aE,rL,rD,rB,reduceIte,jm,aH,b1.at cM rfl]);refine WC.ret ?_;refine az ?_;exact ⟨by rw [if_pos hn],f1⟩
 ·refine WC.cond (b:=false) (by (try simp only [aE,rL,rD,rB,reduceIte,aK hn]);(try simp);(try omega)) (WC.skip ?_);refine ax ?_;(try simp only [aE,rL,rD,rB,reduceIte,jl,aH,b1.at cM rfl]);refine WC.ret ?_;refine az ?_;exact ⟨by rw [if_neg hn],f1⟩
theorem kC {h:H} {c:Oc} {o:ObjD} {k:List UInt8} (ob:Ob g h (·<h.bX) c o) (hM:o.ce.length<2^40) :
  WF (E g) 64 [.agg (c.cells o),.str k] h fun v h'=>v=.tuple [.agg (iD (eD k o.ce)),.bool (fg k o.ce)]∧cH h h':=by
 refine WF.enter fn64 rfl ?_;refine au ?_;refine eI (v:=.agg (c.cells o)) (by (try simp only [aE,rL,rD,rB,reduceIte])) ?_;intro h1 b1 n1 f1;refine az ?_;have b1:Has h1 h.bX [.str o.name,c.code,c.data,c.ce,c.ci,c.cf,.str o.entry]:=b1;refine cz eg ?_;intro h2 b2 n2 f2;refine az ?_;have F2:cH h h2:=f1.trans (f2.sub fun x hx=>by omega);have b2':=b1.fix f2;have ob2:=(ob.fix F2 (fun _ h=>h)).up (K':=(·<h2.bX)) (fun _ h=>by omega)
 generalize hb:h1.bX=rb at *;refine ap ?_;(try simp only [aE,rL,rD,rB,reduceIte,iw,aH,b2'.at gu rfl,Sl.lenB ob2.ce gu rfl]);refine ao ?_
 refine WC.while (fun m fr hh=>∃ts i,fr=⟨ts,22,[],64,none⟩∧Fix (·<h2.bX) h2 hh∧m=o.ce.length - i∧i≤o.ce.length∧ts.get 1=some (.str k)∧ts.get 4=some (.ptr rb 0)∧ts.get 9=some c.ce∧ts.get 10=some (.int .i64 o.ce.length)∧ts.get 11=some (.int .i64 i)∧fnd k (o.ce.take i)=none) ?_ ⟨_,0,rfl,Fix.refl _ _,rfl,by omega,?_,?_,?_,?_,?_,rfl⟩
 ·rintro m fr hh ⟨ts,i,rfl,ff,rfl,hi,t1,t4,t9,t10,t11,hno⟩
  have xh:=ff.bX;have bb:=b2.fix ff;refine ap ?_;(try simp only [aE,rL,rD,rB,reduceIte,t10,t11]);refine aw ?_
  by_cases hlt:i<o.ce.length
  ·refine aG (WC.skip ?_);refine az ?_;obtain ⟨p,p1,p2⟩:=ob2.ce.at (fun _=>rfl) gu rfl eg rfl (by decide) rfl hlt;have p2:=p2 hh fun b o m c e=>ff.ca b (by have:=ob2.inS _ _ _ _ e;omega);refine ao ?_;refine ap ?_;(try simp only [aE,rL,rD,rB,reduceIte,t9,t11,p1,p2]);refine cz eg ?_;intro h5 b5 n5 f5;refine az ?_;refine cq b5 eg rfl (by decide) rfl ?_;intro h6 b6 n6 f6;have b6:Has h6 hh.bX (iD o.ce[i]):=b6
   have Fk:Fix (·<hh.bX) hh h6:=⟨by omega,fun c hc=>by rw [f6.ca c (by omega),f5.ca c hc]⟩;have l6:cx (E g) h6 9 (.ptr hh.bX 0)=some (.str o.ce[i].name):=b6.at ty9 rfl 0;have lx:cx (E g) h6 132 (.ptr hh.bX 0)=some (.agg (iD o.ce[i])):=b6.agg eg rfl (o:=0) (by show 0+5≤5;decide);have F6:Fix (·<h2.bX) h2 h6:=ff.trans (Fk.sub fun x hx=>by omega);refine ax ?_;(try simp only [aE,rL,rD,rB,reduceIte,t1,ry,aH,l6,gH])
   refine aw ?_
   cases hb:(o.ce[i].name==k) with
   | true =>
    refine WC.cond (b:=true) (by (try simp only [aE,rL,rD,rB,reduceIte,hb]);(try simp);(try omega)) ?_;refine ap ?_;(try simp only [aE,rL,rD,rB,reduceIte,t4,lx]);refine cq (bb.fix Fk) eg rfl (by decide) rfl ?_;intro h7 b7 n7 f7;have b7:Has h7 rb (iD o.ce[i]):=b7;have ly:cx (E g) h7 132 (.ptr rb 0)=some (.agg (iD o.ce[i])):=b7.agg eg rfl (o:=0) (by show 0+5≤5;decide);refine az ?_;refine WC.ret ?_;(try simp only [aE,rL,rD,rB,reduceIte,t4,ly])
    have hf:=fnd_at hlt hno (eq_of_beq hb);refine ⟨?_,⟨by have:=F6.bX;omega,fun c hc=>by rw [f7.ca c (by omega),F6.ca c (by omega),F2.ca c hc]⟩⟩;simp only [eD,fg,hf,List.getElem?_eq_getElem hlt,bF]
   | false =>
    refine WC.cond (b:=false) (by (try simp only [aE,rL,rD,rB,reduceIte,hb]);(try simp);(try omega)) (WC.skip ?_);refine ax ?_;(try simp only [aE,rL,rD,rB,reduceIte,t11,ct])
    refine ⟨_,?_,_,i+1,rfl,F6,rfl,by omega,?_⟩
    ·omega
    (try simp only [aE,rL,rD,rB,reduceIte,t1,t4,t9,t10])
    refine ⟨aD,aD,aD,aD,?_,?_⟩
    ·rw [cy (by omega) (by omega)];rfl
    ·rw [bW hlt,xv hno,if_neg (by simpa using hb)]
  ·refine aF (WC.exit ?_);have:i=o.ce.length:=by omega
   subst this;rw [bv] at hno;refine ax ?_
   have hbd:dY (E g) 132 []=some (.agg (iD HV)):=by
    simp only [dY,eg,cW,bo];simp only [ty9,ty3,ty2,ty4,List.all_cons,List.all_nil,bF,Bool.and_self,aV,cond_false];rfl
   (try simp only [aE,rL,rD,rB,reduceIte,t4,hbd]);refine cq bb eg rfl (by decide) rfl ?_;intro h7 b7 n7 f7;have b7:Has h7 rb (iD HV):=b7;have ly:cx (E g) h7 132 (.ptr rb 0)=some (.agg (iD HV)):=b7.agg eg rfl (o:=0) (by show 0+5≤5;decide);refine az ?_;refine WC.ret ?_;(try simp only [aE,rL,rD,rB,reduceIte,t4,ly]);refine ⟨?_,⟨by have:=ff.bX;omega,fun c hc=>by rw [f7.ca c (by omega),ff.ca c (by omega),F2.ca c hc]⟩⟩
   simp only [eD,fg,hno,Option.isSome_none]
 all_goals (try simp only [aE,rL,rD,rB,reduceIte])
 all_goals (first|trivial|rfl|simp)
end Go.Proofs.OP
