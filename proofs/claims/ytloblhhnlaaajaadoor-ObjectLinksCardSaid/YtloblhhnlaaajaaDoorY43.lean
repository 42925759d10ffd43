/- Walks: the reference's layout. -/
import Derived.Test.YtloblhhnlaaajaaDoorY42
set_option maxHeartbeats 16000000
set_option maxRecDepth 100000
set_option linter.unusedVariables false
set_option linter.unusedSimpArgs false
set_option linter.defProp false
namespace Go.Proofs.OP
open Go Go.Ev
open Go.Proofs
open Nat renaming reduceLT → rL, reduceEqDiff → rD, reduceBEq → rB
variable {g : T (List V)}
theorem upN_upN (a:Nat):upN (upN a)=upN a:=by unfold upN;omega
def qe:List RelD→List (List UInt8)→List (List UInt8)
 | [],N=>N
 | r::rest,N=>qe rest (if r.kind=2 then pn r.sym N else N)
def gL:List ObjD→List (List UInt8)→List (List UInt8)
 | [],N=>N
 | o::r,N=>gL r (qe o.ci N)
theorem qr:∀(L:List RelD) (N:List (List UInt8)),(qe L N).length≤N.length+L.length
 | [],N=>by simp [qe]
 | r::rest,N=>by
  simp only [qe,aO]
  split
  ·have:=qr rest (pn r.sym N);have:=oh r.sym N;omega
  ·have:=qr rest N;omega
theorem uU:∀(os:List ObjD) (N:List (List UInt8)),(∀o∈os,o.ci.length≤1000)→(gL os N).length≤N.length+os.length * 1000
 | [],N,_=>by simp [gL]
 | o::r,N,h=>by
  have h1:=h o (aT ..);have h2:=qr o.ci N;have h3:=uU r (qe o.ci N) fun x hx=>h x (aM _ hx);simp only [gL,aO,Nat.succ_mul];omega
theorem C2 {n0 kb:Nat} {h:H} {ls:V} {L:List (Oc×ObjD)} {base:Int} (hn0:n0≤h.bX) (a:Obs g h (·<n0) ls L) (lg:Lg base (L.map (·.2)))
  (bk:Has h kb (rkV ls base .nils 0 0 .nils 0)) (hkb:kb<h.bX) (k0:n0≤kb) :
  WF (E g) 94 [.ptr kb 0] h fun _ h'=>Fix (fun b=>b<h.bX∧b≠kb) h h'∧∃stb nm,h.bX≤stb∧In (fun b=>h.bX≤b) nm∧Obs g h' (·<n0) ls L ∧
   Rk g h' h'.bX kb stb ls nm L base (upN (dJ (L.map (·.2))):Nat) (base+(fM (L.map (·.2)):Nat)) ((fM (L.map (·.2))+8 * (gL (L.map (·.2)) []).length:Nat):Int) (gL (L.map (·.2)) []):=by
 have hb:=lg.base;have hb1:=hb.most;have hb0:=hb.pos;have lL:L.length≤20:=by have:=lg.len;simpa using this
 have hM1:∀sec,1≤sec→sec≤2→∀o∈L.map (·.2),szS sec o≤16384:=fun sec h1 h2 o ho=>by
  have q1:=(lg.good o ho).code;have q2:=(lg.good o ho).data;unfold szS
  split
  ·exact q1
  ·exact q2
 have hrel:∀o∈L.map (·.2),o.ci.length≤1000:=fun o ho=>(lg.good o ho).nrel;have hlo:(L.map (·.2)).length=L.length:=by simp
 generalize hos:L.map (·.2)=os at *
 have hend:∀sec i a,1≤sec→sec≤2→a≤iG sec (os.take i) a∧iG sec (os.take i) a≤a+20 * 16400:=fun sec i a h1 h2=>by
  have:=rt (sec:=sec) (M:=16384) (os:=os.take i) (a:=a) fun o ho=>hM1 sec h1 h2 o (List.mem_of_mem_take ho);have hl:(os.take i).length≤20:=by rw [List.length_take];omega
  have hl2:(os.take i).length * (16384+16)≤20 * 16400:=Nat.mul_le_mul_right _ hl;omega
 have hend1:dJ os≤20 * 16400:=by
  have:=hend 1 os.length 0 (by omega) (by omega);rw [bv] at this;unfold dJ;omega
 have hend2:ko os≤40 * 16400:=by
  have:=hend 2 os.length (dJ os) (by omega) (by omega);rw [bv] at this;unfold ko;omega
 refine WF.enter fn94 rfl ?_;refine ap ?_;(try simp only [aE,rL,rD,rB,reduceIte,Ao,aH,bk.at ty2 rfl,i64]);refine ap ?_;(try simp only [aE,rL,rD,rB,reduceIte,lU,kX,aH,bk.at gM rfl,Sl.lenB a.sl gM rfl]);refine iQ (s:=3) (v:=.int .i64 0) (n:=L.length) eK rfl gK rfl rfl (by decide) (show 24 * L.length≤281474976710656 by omega) (by omega) ?_;intro h2 b2 n2 f2;rw [AZ,←D5 (base:=base) (os:=os)] at b2;have bk2:=bk.fix f2
 (try simp only [aE,rL,rD,rB,reduceIte,kX,aH]);refine cq bk2 eK rfl (show 2+1≤7 by decide) rfl ?_;intro h3 bk3 n3 f3;have bk3:Has h3 kb (rkV ls base (.slice h.bX 0 L.length (.lit L.length)) 0 0 .nils 0):=bk3;have b3:=b2.fix f3;have a3:=(a.fix f2).fix f3;have F3:Fix (fun b=>b<h.bX∧b≠kb) h h3:=⟨by omega,fun b hb=>by rw [f3.ca b hb.2,f2.ca b hb.1]⟩;generalize hstb:h.bX=stb at *;refine ay ?_;refine ao ?_
 refine WC.while (fun m fr hh=>∃ts sec,fr=⟨ts,119,[],94,none⟩∧Fix (fun b=>b<h3.bX∧b≠kb∧b≠stb) h3 hh∧m=3 - sec∧1≤sec∧sec≤3∧ts.get 0=some (.ptr kb 0)∧ts.get 2=some (.int .i64 (base+((if sec=1 then 0 else if sec=2 then upN (dJ os) else upN (ko os):Nat):Int)))∧ts.get 3=some (.int .i64 (sec:Nat)) ∧
  Has hh kb (rkV ls base (.slice stb 0 L.length (.lit L.length)) (if sec=1 then 0 else (upN (dJ os):Nat)) 0 .nils 0)∧Has hh stb (stC L.length (stF base os sec 0))) ?_ ⟨_,1,rfl,Fix.refl _ _,rfl,by omega,by omega,?_,?_,?_,bk3,b3⟩
 ·rintro m fr hh ⟨ts,sec,rfl,ff,rfl,sec1,sec3,t0,t2,t3,bkh,bsh⟩
  have xh:=ff.bX;have ah:=a3.fix ff;refine ap ?_;(try simp only [aE,rL,rD,rB,reduceIte,t3]);refine aw ?_
  by_cases hlt:sec≤2
  ·refine aG (WC.skip ?_);refine az ?_
   have e3:upN (if sec=1 then 0 else if sec=2 then upN (dJ os) else upN (ko os):Nat)=upN (if sec=1 then 0 else dJ os):=by
    by_cases q:sec=1
    ·rw [if_pos q,if_pos q]
    ·rw [if_neg q,if_neg q,if_pos (by omega),upN_upN]
   have e4:(if sec=1 then 0 else if sec=2 then upN (dJ os) else upN (ko os):Nat)≤20 * 16400+16:=by
    have:=iS (dJ os)
    by_cases q:sec=1
    ·rw [if_pos q];omega
    ·rw [if_neg q,if_pos (by omega)];omega
   generalize hA0:(if sec=1 then 0 else if sec=2 then upN (dJ os) else upN (ko os):Nat)=A0 at t2 e3 e4;have h0:(if sec=1 then 0 else dJ os:Nat)≤20 * 16400:=by split<;>omega
   generalize ha0:(if sec=1 then 0 else dJ os:Nat)=a0 at e3 h0;refine ao ?_;refine ap ?_;(try simp only [aE,rL,rD,rB,reduceIte,t0,lU,aH,bkh.at gM rfl,Sl.lenB ah.sl gM rfl]);refine ao ?_
   refine WC.while (fun m fr hj=>∃ts i A,fr=⟨ts,119,[],94,none⟩∧Fix (fun b=>b<hh.bX∧b≠stb) hh hj∧m=L.length - i∧i≤L.length∧ts.get 0=some (.ptr kb 0)∧ts.get 2=some (.int .i64 (base+(A:Nat)))∧ts.get 3=some (.int .i64 (sec:Nat))∧ts.get 30=some ls∧ts.get 31=some (.int .i64 L.length)∧ts.get 32=some (.int .i64 i)∧Has hj stb (stC L.length (stF base os sec i))∧upN A=upN (iG sec (os.take i) a0)∧A≤41 * 16400) ?_ ⟨_,0,A0,rfl,Fix.refl _ _,rfl,by omega,?_,?_,?_,?_,?_,?_,bsh,e3,by omega⟩
   ·rintro m fr hj ⟨ts,i,A,rfl,fj,rfl,hi,t0,t2,t3,t30,t31,t32,bsj,hA,hA2⟩
    have xj:=fj.bX;have aj:=ah.fix fj;have bkj:=bkh.fix fj ⟨by omega,by omega⟩;have hE:=hend sec i a0 sec1 hlt;refine ap ?_;(try simp only [aE,rL,rD,rB,reduceIte,t31,t32]);refine aw ?_
    by_cases hli:i<L.length
    ·refine aG (WC.skip ?_);refine az ?_;have hup:=iS A;have hst:stO os sec i=upN A:=by unfold stO stA;rw [ha0,hA]
     obtain ⟨p,p1,p2⟩:=aj.sl.at (fun _=>rfl) gM rfl eP rfl (by decide) rfl hli;have p2:=p2 hj fun _ _ _ _ _=>rfl;have obj:=aj.ob _ (aP hli);have hoi:os[i]'(by omega)=L[i].2:=by subst hos;simp
     have hsz:=hM1 sec sec1 hlt _ (show L[i].2∈os by rw [←hoi];exact aP _);refine ao ?_;refine ap ?_;(try simp only [aE,rL,rD,rB,reduceIte,t30,t32,p1,p2]);refine cz eP ?_;intro h5 b5 n5 f5;refine az ?_;refine cq b5 eP rfl (aI 7) (Oc.one obj) ?_;intro h6 b6 n6 f6;have b6:Has h6 hj.bX (L[i].1.cells L[i].2):=b6;have F6:cH hj h6:=⟨by omega,fun b hb=>by rw [f6.ca b (by omega),f5.ca b hb]⟩;have bs6:=bsj.fix F6
     have bk6:=bkj.fix F6;have ob6:=obj.fix F6;refine ax ?_;(try simp only [aE,rL,rD,rB,reduceIte,t2]);refine (yU hb (show A<2^40 by omega)).mono fun v h7 ⟨e7,f7⟩=>?_;subst e7 f7;refine ax ?_;(try simp only [aE,rL,rD,rB,reduceIte,t0,t3,kX,aH,bk6.at eK rfl,ef eK rfl gK hli,ke gK rfl ty2 (show sec<3 by omega),bL]);refine cq bs6 ty2 rfl (show i * 3+sec+1≤_ by rw [kA];omega) rfl ?_;intro h8 b8 n8 f8;have b8:Has h8 stb (o5 (stC L.length (stF base os sec i)) (i * 3+sec) [i64 (base+(stO os sec i:Nat))]):=by rw [hst];exact b8
     rw [A3 (by omega),AY sec1 hlt] at b8;have bk8:=bk6.fix f8;have ob8:=ob6.fix f8;have l8:cx (E g) h8 70 (.ptr hj.bX 0)=some (.agg (L[i].1.cells L[i].2)):=(b6.fix f8).agg eP rfl (aI 7);refine ax ?_;(try simp only [aE,rL,rD,rB,reduceIte,t3,l8]);refine (sC (o:=L[i].2)).mono fun v h9 ⟨e9,f9⟩=>?_;have x9:=f9.bX
     have hlen:∀h',Ev.lenB (E g) h' 27 v=some (.int .i64 (szS sec L[i].2:Nat)):=by
      intro h';subst e9
      by_cases q:sec=1
      ·subst q;simpa [szS] using Sl.lenB ob8.code cM rfl h'
      ·have q2:¬((sec:Nat):Int)=1:=by omega
       simpa [szS,q,q2] using Sl.lenB ob8.data cM rfl h'
     have b9:=b8.fix f9;(try simp only [aE,rL,rD,rB,reduceIte,hlen,ct]);refine ap ?_;(try simp only [aE,rL,rD,rB,reduceIte,t32,ct])
     refine ⟨_,?_,_,i+1,upN A+szS sec L[i].2,rfl,⟨by omega,fun b hb=>by rw [f9.ca b (by omega),f8.ca b hb.2,F6.ca b (by omega),fj.ca b hb]⟩,rfl,by omega,?_⟩
     ·omega
     (try simp only [aE,rL,rD,rB,reduceIte,t0,t3,t30,t31])
     refine ⟨aD,?_,aD,aD,aD,?_,b9,?_,?_⟩
     ·rw [cy (by omega) (by omega)]
      congr 2
      omega
     ·rw [cy (by omega) (by omega)];rfl
     ·rw [uv (by omega),hoi,←hA]
     ·have q1:=iS (iG sec (os.take i) a0);omega
    ·refine aF (WC.exit ?_);have:i=L.length:=by omega
     subst this;have hT:os.take L.length=os:=by rw [←hlo,bv]
     rw [hT] at hA hE;have bsn:Has hj stb (stC L.length (stF base os (sec+1) 0)):=by rw [←yO fun m hm=>D4 hm];exact bsj
     have hup:=iS A;(try simp only [aE,rL,rD,rB,reduceIte,nb2]);refine ap ?_;(try simp only [aE,rL,rD,rB,reduceIte,t2]);refine (yU hb (show A<2^40 by omega)).mono fun v h7 ⟨e7,f7⟩=>?_;subst e7 f7;rw [hA];refine ax ?_;(try simp only [aE,rL,rD,rB,reduceIte,t3]);refine aw ?_
     by_cases h1:sec=1
     ·subst h1;simp only [if_true] at ha0;subst ha0;have e1:iG 1 os 0=dJ os:=rfl;rw [e1];have hup:=iS (dJ os);refine aG ?_;refine ax ?_;have ew:IntKind.i64.wrap (base+(upN (dJ os):Nat) - base)=((upN (dJ os):Nat):Int):=by rw [cy (by omega) (by omega)];omega
      (try simp only [aE,rL,rD,rB,reduceIte,t0,Ao,jx,aH,bkj.at ty2 rfl,i64,cF,ew]);refine cq bkj ty2 rfl (show 3+1≤7 by decide) rfl ?_;intro h5 b5 n5 f5;have b5:Has h5 kb (rkV ls base (.slice stb 0 L.length (.lit L.length)) (upN (dJ os):Nat) 0 .nils 0):=b5;refine ax ?_;(try simp only [aE,rL,rD,rB,reduceIte,t3,ct])
      refine ⟨_,?_,_,2,rfl,⟨by omega,fun b hb=>by rw [f5.ca b hb.2.1,fj.ca b ⟨by omega,hb.2.2⟩,ff.ca b hb]⟩,rfl,by omega,by omega,?_⟩
      ·omega
      (try simp only [aE,rL,rD,rB,reduceIte,t0]);exact ⟨aD,(by first|trivial|rfl),(by first|trivial|rfl),b5,bsn.fix f5⟩
     ·obtain rfl:sec=2:=by omega
      have ha0:dJ os=a0:=by rw [←ha0];rfl
      subst ha0;have e1:iG 2 os (dJ os)=ko os:=rfl;rw [e1];refine aF (WC.skip ?_);refine ax ?_;(try simp only [aE,rL,rD,rB,reduceIte,t3,ct])
      refine ⟨_,?_,_,3,rfl,⟨by omega,fun b hb=>by rw [fj.ca b ⟨by omega,hb.2.2⟩,ff.ca b hb]⟩,rfl,by omega,by omega,?_⟩
      ·omega
      (try simp only [aE,rL,rD,rB,reduceIte,t0]);exact ⟨aD,(by first|trivial|rfl),(by first|trivial|rfl),bkj,bsn⟩
   all_goals (try simp only [aE,rL,rD,rB,reduceIte,t0,t2,t3])
   all_goals (first|done|rfl|trivial|simp)
  ·refine aF (WC.exit ?_);obtain rfl:sec=3:=by omega
   have t2:ts.get 2=some (.int .i64 (base+(fM os:Nat))):=t2;have bkh:Has hh kb (rkV ls base (.slice stb 0 L.length (.lit L.length)) (upN (dJ os):Nat) 0 .nils 0):=bkh;have bsh:Has hh stb (stC L.length (stG base os)):=bsh;have htl:fM os≤41 * 16400:=by have:=iS (ko os);unfold fM;omega
   have ah:Obs g hh (·<n0) ls L:=ah;refine ax ?_;(try simp only [aE,rL,rD,rB,reduceIte,t0,lU,aH,bkh.at gM rfl,Sl.lenB ah.sl gM rfl]);refine ao ?_
   refine WC.while (fun m fr hi=>∃ts i nm N,fr=⟨ts,119,[],94,none⟩∧Fix (fun b=>b<hh.bX∧b≠kb) hh hi∧m=L.length - i∧i≤L.length∧ts.get 0=some (.ptr kb 0)∧ts.get 2=some (.int .i64 (base+(fM os:Nat)))∧ts.get 71=some ls∧ts.get 72=some (.int .i64 L.length)∧ts.get 73=some (.int .i64 i) ∧
    Has hi kb (rkV ls base (.slice stb 0 L.length (.lit L.length)) (upN (dJ os):Nat) 0 nm 0)∧Ss g hi nm N∧In (fun b=>hh.bX≤b∧b<hi.bX) nm∧N.length≤i * 1000∧gL (os.drop i) N=gL os []) ?_ ⟨_,0,.nils,[],rfl,Fix.refl _ _,rfl,by omega,?_,?_,?_,?_,?_,bkh,Sl.nil,(fun b o n c e=>by cases e),by simp,by simp⟩
   ·rintro m fr hi ⟨ts,i,nm,N,rfl,fi,rfl,hil,t0,t2,t71,t72,t73,bki,ssi,ini,lN,hN⟩
    have xi:=fi.bX;have ai:=ah.fix fi fun b hb=>⟨by omega,by omega⟩;refine ap ?_;(try simp only [aE,rL,rD,rB,reduceIte,t72,t73]);refine aw ?_
    by_cases hli:i<L.length
    ·refine aG (WC.skip ?_);refine az ?_;obtain ⟨p,p1,p2⟩:=ai.sl.at (fun _=>rfl) gM rfl eP rfl (by decide) rfl hli;have p2:=p2 hi fun _ _ _ _ _=>rfl;have obi:=ai.ob _ (aP hli);have hoi:os[i]'(by omega)=L[i].2:=by subst hos;simp
     have hri:=hrel _ (show L[i].2∈os by rw [←hoi];exact aP _);rw [da (by omega),hoi] at hN;simp only [gL] at hN;refine ao ?_;refine ap ?_;(try simp only [aE,rL,rD,rB,reduceIte,t71,t73,p1,p2]);refine cz eP ?_;intro h5 b5 n5 f5;refine az ?_;refine cq b5 eP rfl (aI 7) (Oc.one obi) ?_;intro h6 b6 n6 f6;have b6:Has h6 hi.bX [.str L[i].2.name,L[i].1.code,L[i].1.data,L[i].1.ce,L[i].1.ci,L[i].1.cf,.str L[i].2.entry]:=b6
     have F6:cH hi h6:=⟨by omega,fun b hb=>by rw [f6.ca b (by omega),f5.ca b hb]⟩;have bk6:=bki.fix F6;have ob6:=obi.fix F6;have ss6:=Sl.fix ssi ini (F6.sub fun b hb=>hb.2);refine ax ?_;(try simp only [aE,rL,rD,rB,reduceIte,iv,aH,b6.at gt rfl,Sl.lenB ob6.ci gt rfl]);refine ao ?_
     refine WC.while (fun m fr hj=>∃ts j nm N,fr=⟨ts,119,[],94,none⟩∧Fix (fun b=>b<h6.bX∧b≠kb) h6 hj∧m=L[i].2.ci.length - j∧j≤L[i].2.ci.length∧ts.get 0=some (.ptr kb 0)∧ts.get 2=some (.int .i64 (base+(fM os:Nat)))∧ts.get 71=some ls∧ts.get 72=some (.int .i64 L.length)∧ts.get 73=some (.int .i64 i)∧ts.get 78=some L[i].1.ci∧ts.get 79=some (.int .i64 L[i].2.ci.length)∧ts.get 80=some (.int .i64 j) ∧
      Has hj kb (rkV ls base (.slice stb 0 L.length (.lit L.length)) (upN (dJ os):Nat) 0 nm 0)∧Ss g hj nm N∧In (fun b=>hh.bX≤b∧b<hj.bX) nm∧N.length≤i * 1000+j∧gL (os.drop (i+1)) (qe (L[i].2.ci.drop j) N)=gL os []) ?_ ⟨_,0,nm,N,rfl,Fix.refl _ _,rfl,by omega,?_,?_,?_,?_,?_,?_,?_,?_,bk6,ss6,ini.sub fun b hb=>⟨hb.1,by omega⟩,by omega,by simpa using hN⟩
     ·rintro m fr hj ⟨ts,j,nm,N,rfl,fj,rfl,hjl,t0,t2,t71,t72,t73,t78,t79,t80,bkj,ssj,inj,lN,hN⟩
      have xj:=fj.bX;have obj:=ob6.fix fj fun b hb=>⟨by omega,by omega⟩;refine ap ?_;(try simp only [aE,rL,rD,rB,reduceIte,t79,t80]);refine aw ?_
      by_cases hlj:j<L[i].2.ci.length
      ·refine aG (WC.skip ?_);refine az ?_;obtain ⟨p,p1,p2⟩:=obj.ci.at jh gt rfl ii rfl (by decide) rfl hlj;have p2:=p2 hj fun _ _ _ _ _=>rfl;rw [da hlj] at hN;simp only [qe] at hN;generalize hr:L[i].2.ci[j]=r at p2 hN;refine ao ?_;refine ap ?_;(try simp only [aE,rL,rD,rB,reduceIte,t78,t80,p1,p2]);refine cz ii ?_;intro h7 b7 n7 f7;refine az ?_;refine cq b7 ii rfl (aI 5) (oX r) ?_;intro h8 b8 n8 f8;have b8:Has h8 hj.bX [i64 r.sec,i64 r.off,i64 r.kind,.str r.sym,i64 r.add]:=b8
       have F8:cH hj h8:=⟨by omega,fun b hb=>by rw [f8.ca b (by omega),f7.ca b hb]⟩;have bk8:=bkj.fix F8;have ss8:=Sl.fix ssj inj (F8.sub fun b hb=>hb.2);refine ax ?_
       by_cases hk:r.kind=2
       ·rw [if_pos hk] at hN;(try simp only [aE,rL,rD,rB,reduceIte,jc,aH,b8.at ty3 rfl,i64,jL,nf hk]);refine aw ?_;refine aG ?_
        ((repeat refine WC.seq ?_);refine WC.draw (plans:=Ef) (by kernel_rfl) ?_;simp only [Ef,ak])
        (try simp (maxSteps:=2000000) only [aE,rL,rD,rB,reduceIte,af,Chk,t0,tQ,oo,aH,bk8.at cD rfl,b8.at ty9 rfl]);refine (zm ss8 (inj.sub (L:=fun b=>hh.bX≤b∧b<h8.bX) fun b hb=>⟨hb.1,by omega⟩) (fun b hb=>hb.2) (by omega)).mono fun v h9 ⟨ss9,in9,f9⟩=>?_;have x9:=f9.bX;have bk9:=bk8.fix f9;have b9:=b8.fix f9;have one9:v.cells=[v]∧v.one=true:=Sl.one ss9;(try simp (maxSteps:=2000000) only [aE,rL,rD,rB,reduceIte,af,Chk,t0,tQ,oo,aH,bk9.at cD rfl,b9.at ty9 rfl])
        refine cq bk9 cD (by rw [one9.1];rfl) (show 5+1≤7 by decide) (by rw [one9.1];simp [one9.2]) ?_;intro h10 b10 n10 f10;rw [one9.1] at b10;have b10:Has h10 kb (rkV ls base (.slice stb 0 L.length (.lit L.length)) (upN (dJ os):Nat) 0 v 0):=b10;have ss10:=Sl.fix (K:=(·≠kb)) ss9 (in9.sub) f10;refine am ?_;refine ap ?_;(try simp only [aE,rL,rD,rB,reduceIte,t80,ct]);have hl:=oh r.sym N
        refine ⟨_,?_,_,j+1,v,pn r.sym N,rfl,⟨by omega,fun b hb=>by rw [f10.ca b hb.2,f9.ca b (by omega),F8.ca b (by omega),fj.ca b hb]⟩,rfl,by omega,?_⟩
        ·omega
        (try simp only [aE,rL,rD,rB,reduceIte,t0,t2,t71,t72,t73,t78,t79]);refine ⟨aD,aD,aD,aD,aD,aD,aD,?_,b10,ss10,in9.sub fun b hb=>⟨by omega,by omega⟩,by omega,hN⟩;rw [cy (by omega) (by omega)];rfl
       ·rw [if_neg hk] at hN;(try simp only [aE,rL,rD,rB,reduceIte,jc,aH,b8.at ty3 rfl,i64,jL,li hk]);refine aw ?_;refine aF (WC.skip ?_);refine ax ?_;(try simp only [aE,rL,rD,rB,reduceIte,t80,ct])
        refine ⟨_,?_,_,j+1,nm,N,rfl,⟨by omega,fun b hb=>by rw [F8.ca b (by omega),fj.ca b hb]⟩,rfl,by omega,?_⟩
        ·omega
        (try simp only [aE,rL,rD,rB,reduceIte,t0,t2,t71,t72,t73,t78,t79]);refine ⟨aD,aD,aD,aD,aD,aD,aD,?_,bk8,ss8,inj.sub fun b hb=>⟨by omega,by omega⟩,by omega,hN⟩;rw [cy (by omega) (by omega)];rfl
      ·refine aF (WC.exit ?_);have:j=L[i].2.ci.length:=by omega
       subst this;rw [bU] at hN;simp only [qe] at hN;(try simp only [aE,rL,rD,rB,reduceIte,nb6]);refine ap ?_;(try simp only [aE,rL,rD,rB,reduceIte,t73,ct])
       refine ⟨_,?_,_,i+1,nm,N,rfl,⟨by omega,fun b hb=>by rw [fj.ca b ⟨by omega,hb.2⟩,F6.ca b (by omega),fi.ca b hb]⟩,rfl,by omega,?_⟩
       ·omega
       (try simp only [aE,rL,rD,rB,reduceIte,t0,t2,t71,t72]);refine ⟨aD,aD,aD,aD,?_,bkj,ssj,inj,by omega,hN⟩;rw [cy (by omega) (by omega)];rfl
     all_goals (try simp only [aE,rL,rD,rB,reduceIte,t0,t2,t71,t72,t73])
     all_goals (first|done|rfl|trivial|simp)
    ·refine aF (WC.exit ?_);have:i=L.length:=by omega
     subst this;rw [bK (by omega)] at hN;simp only [gL] at hN;subst hN;have bsi:=bsh.fix fi ⟨by omega,by omega⟩;(try simp only [aE,rL,rD,rB,reduceIte,nb4]);refine ap ?_;(try simp only [aE,rL,rD,rB,reduceIte,t0,t2,E7,aH]);refine cq bki ty2 rfl (show 4+1≤7 by decide) rfl ?_;intro h5 b5 n5 f5;have b5:Has h5 kb (rkV ls base (.slice stb 0 L.length (.lit L.length)) (upN (dJ os):Nat) (base+(fM os:Nat)) nm 0):=b5
     have ss5:=Sl.fix (K:=(·≠kb)) ssi (ini.sub) f5;refine az ?_
     have ew:IntKind.i64.wrap (IntKind.i64.wrap (base+(fM os:Nat)+IntKind.i64.wrap (8 * ((gL os []).length:Int))) - base)=((fM os+8 * (gL os []).length:Nat):Int):=by
      rw [cy (n:=8 * ((gL os []).length:Int)) (by omega) (by omega),cy (n:=base+(fM os:Nat)+8 * ((gL os []).length:Int)) (by omega) (by omega),cy (by omega) (by omega)];omega
     ((repeat refine WC.seq ?_);refine WC.draw (plans:=Ee) (by kernel_rfl) ?_;simp only [Ee,ak])
     (try simp (maxSteps:=2000000) only [aE,rL,rD,rB,reduceIte,af,Chk,t0,t2,Ao,tQ,kW,aH,b5.at cD rfl,b5.at ty2 rfl,Sl.lenB ss5 cD rfl,i64,vL,ct,cF,ew]);refine cq b5 ty2 rfl (show 6+1≤7 by decide) rfl ?_;intro h6 b6 n6 f6;have b6:Has h6 kb (rkV ls base (.slice stb 0 L.length (.lit L.length)) (upN (dJ os):Nat) (base+(fM os:Nat)) nm ((fM os+8 * (gL os []).length:Nat):Int)):=b6;refine am ?_;have ss6:=Sl.fix (K:=(·≠kb)) ss5 (ini.sub) f6
     refine ⟨⟨by omega,fun b hb=>by rw [f6.ca b hb.2,f5.ca b hb.2,fi.ca b ⟨by omega,hb.2⟩,ff.ca b ⟨by omega,hb.2,by omega⟩,F3.ca b hb]⟩,stb,nm,by omega,ini.sub,(ai.fix f5).fix f6,?_⟩;exact ⟨b6,by rw [hos];exact (bsi.fix f5).fix f6,ss6,ini.sub,((ai.fix f5).fix f6).up,by omega,by omega,aI _⟩
   all_goals (try simp only [aE,rL,rD,rB,reduceIte,t0,t2])
   all_goals (first|done|rfl|trivial|simp)
 all_goals (try simp only [aE,rL,rD,rB,reduceIte])
 all_goals (first|done|rfl|trivial|simp)
end Go.Proofs.OP
