/- Walks: the reference's linker in memory; global, address, slot. -/
import Derived.Test.YtloblhhnlaaajaaDoorY41
set_option maxHeartbeats 8000000
set_option maxRecDepth 100000
set_option linter.unusedVariables false
set_option linter.unusedSimpArgs false
set_option linter.defProp false
namespace Go.Proofs.OP
open Go Go.Ev
open Go.Proofs
open Nat renaming reduceLT → rL, reduceEqDiff → rD, reduceBEq → rB
variable {g : T (List V)}
abbrev rkV (ls:V) (base:Int) (sv:V) (code cb:Int) (nm:V) (size:Int):List V:=[ls,i64 base,sv,i64 code,i64 cb,nm,i64 size]
structure Rk (g:T (List V)) (h:H) (n1 kb stb:Nat) (ls nm:V) (L:List (Oc×ObjD)) (base code cb size:Int) (N:List (List UInt8)):Prop where
 bk:Has h kb (rkV ls base (.slice stb 0 L.length (.lit L.length)) code cb nm size)
 bs:Has h stb (stC L.length (stG base (L.map (·.2))))
 ss:Ss g h nm N
 nmi:In (·<n1) nm
 ob:Obs g h (·<n1) ls L
 lk:kb<n1
 lt:stb<n1
 le:n1≤h.bX
theorem Rk.fix {h h':H} {n1 kb stb:Nat} {ls nm:V} {L:List (Oc×ObjD)} {base code cb size:Int} {N:List (List UInt8)} (a:Rk g h n1 kb stb ls nm L base code cb size N) (f:Fix (·<n1) h h'):Rk g h' n1 kb stb ls nm L base code cb size N:=by
 have:=f.bX;have:=a.le;exact ⟨a.bk.fix f a.lk,a.bs.fix f a.lt,Sl.fix a.ss a.nmi f,a.nmi,a.ob.fix f fun _ h=>h,a.lk,a.lt,by omega⟩
structure Lg (base:Int) (os:List ObjD):Prop where
 base:Bas base
 len:os.length≤20
 good:∀o∈os,ObjGd o
def isD (k:List UInt8) (w:Bool) (o:ObjD):Bool:=fg k o.ce&&((eD k o.ce).cn&&(decide (0<(eD k o.ce).sec)&&((eD k o.ce).cm==w)))
def rN (base:Int) (os:List ObjD) (k:List UInt8) (w:Bool):Nat→List ObjD→Option Int
 | _,[]=>none
 | i,o::r=>if isD k w o=true then some (base+(stO os (eD k o.ce).sec.toNat i:Nat)+(eD k o.ce).off) else rN base os k w (i+1) r
def nL (base:Int) (os:List ObjD) (k:List UInt8):Option Int:=match rN base os k false 0 os with
 | some a=>some a
 | none=>rN base os k true 0 os
def resV (r:Option Int):V:=.tuple [i64 (r.getD 0),.bool r.isSome]
theorem ng {k:List UInt8} {L:List SymD} (h:fg k L=true):eD k L∈L∧(eD k L).name=k:=by
 unfold fg at h
 cases hf:fnd k L with
 | none=>rw [hf] at h;cases h
 | some j =>
  obtain ⟨hj,e⟩:=qJ hf;rw [zo hf hj];exact ⟨aP hj,e⟩
theorem tu {base:Int} {os:List ObjD} (lg:Lg base os) {sec i:Nat} (h1:1≤sec) (h2:sec≤2) (hi:i<os.length):stO os sec i≤41 * 16400:=by
 have q:=zP h1 h2 hi;have:=lg.len
 have hM:∀sec,1≤sec→sec≤2→∀o∈os,szS sec o≤16384:=fun sec h1 h2 o ho=>by
  have q1:=(lg.good o ho).code;have q2:=(lg.good o ho).data;unfold szS
  split
  ·exact q1
  ·exact q2
 have e1:=(rt (sec:=1) (M:=16384) (os:=os) (a:=0) (hM 1 (by omega) (by omega))).2;have e2:=(rt (sec:=2) (M:=16384) (os:=os) (a:=dJ os) (hM 2 (by omega) (by omega))).2;have e3:=iS (ko os);have e4:os.length * (16384+16)≤20 * 16400:=Nat.mul_le_mul_right _ lg.len;have e5:dJ os=iG 1 os 0:=rfl;have e6:ko os=iG 2 os (dJ os):=rfl;unfold fM at q;omega
theorem uy {h:H} {n1 kb stb:Nat} {ls nm:V} {L:List (Oc×ObjD)} {base code cb size:Int} {N:List (List UInt8)} {k:List UInt8} (rk:Rk g h n1 kb stb ls nm L base code cb size N) (lg:Lg base (L.map (·.2))) :
  WF (E g) 50 [.ptr kb 0,.str k] h fun v h'=>v=resV (nL base (L.map (·.2)) k)∧cH h h':=by
 have lL:=lg.len;have hlo:(L.map (·.2)).length=L.length:=by simp
 have hb1:=lg.base.most;have hb0:=lg.base.pos;generalize hos:L.map (·.2)=os at *;refine WF.enter fn50 rfl ?_;refine au ?_;refine au ?_;refine de (cs:=[.bool false,.bool true]) HK rfl ty4 rfl (by decide) (by decide) rfl rfl ?_;intro h1 z1 n1' f1;have rk1:=rk.fix (f1.sub fun b hb=>by have:=rk.le;omega);(try simp only [aE,rL,rD,rB,reduceIte,z1.sl.lenB HK rfl]);refine ao ?_
 refine WC.while (fun m fr hh=>∃ts j,fr=⟨ts,65,[],50,none⟩∧Fix (·<h1.bX) h1 hh∧m=2 - j∧j≤2∧ts.get 0=some (.ptr kb 0)∧ts.get 1=some (.str k)∧ts.get 12=some (.slice h.bX 0 2 (.lit 2))∧ts.get 13=some (.int .i64 2)∧ts.get 14=some (.int .i64 j)∧(0<j→rN base os k false 0 os=none)∧(1<j→rN base os k true 0 os=none)) ?_ ⟨_,0,rfl,Fix.refl _ _,rfl,by omega,?_,?_,?_,?_,?_,by omega,by omega⟩
 ·rintro m fr hh ⟨ts,j,rfl,ff,rfl,hj,t0,t1,t12,t13,t14,hw0,hw1⟩
  have xh:=ff.bX;have zh:=z1.sl.fix (K:=(·<h1.bX)) (fun b o n c e=>by injection e with e;omega) ff;have rkh:=rk1.fix (ff.sub fun b hb=>by have:=rk.le;omega);have leh:=rk.le;refine ap ?_;(try simp only [aE,rL,rD,rB,reduceIte,t13,t14]);refine aw ?_
  by_cases hlt:j<2
  ·refine aG (WC.skip ?_);refine az ?_;obtain ⟨p,p1,p2⟩:=zh.place (k:=j) HK rfl ty4 rfl (by decide) hlt;have p2:=p2 hh fun _ _ _ _ _=>rfl
   obtain ⟨w,hw⟩:∃w:Bool,([V.bool false,.bool true]:List V)[j * 1]?=some (.bool w)∧w=decide (j=1):=by
    match j,hlt with
    | 0,_=>exact ⟨false,rfl,rfl⟩
    | 1,_=>exact ⟨true,rfl,rfl⟩
   have p2:cx (E g) hh 4 p=some (.bool w):=p2.trans hw.1;refine ao ?_;refine ap ?_;(try simp only [aE,rL,rD,rB,reduceIte,t12,t14,p1,p2]);refine ap ?_;(try simp only [aE,rL,rD,rB,reduceIte,t0,lU,aH,rkh.bk.at gM rfl,Sl.lenB rkh.ob.sl gM rfl]);refine ao ?_
   refine WC.while (fun m fr hi=>∃ts i,fr=⟨ts,65,[],50,none⟩∧Fix (·<hh.bX) hh hi∧m=L.length - i∧i≤L.length∧ts.get 0=some (.ptr kb 0)∧ts.get 1=some (.str k)∧ts.get 7=some (.bool w)∧ts.get 12=some (.slice h.bX 0 2 (.lit 2))∧ts.get 13=some (.int .i64 2)∧ts.get 14=some (.int .i64 j)∧ts.get 21=some ls∧ts.get 22=some (.int .i64 L.length)∧ts.get 23=some (.int .i64 i)∧rN base os k w 0 os=rN base os k w i (os.drop i)) ?_ ⟨_,0,rfl,Fix.refl _ _,rfl,by omega,?_,?_,?_,?_,?_,?_,?_,?_,?_,by simp⟩
   ·rintro m fr hi ⟨ts,i,rfl,fi,rfl,hil,t0,t1,t7,t12,t13,t14,t21,t22,t23,hg⟩
    have xi:=fi.bX;have rki:=rkh.fix (fi.sub);refine ap ?_;(try simp only [aE,rL,rD,rB,reduceIte,t22,t23]);refine aw ?_
    by_cases hli:i<L.length
    ·refine aG (WC.skip ?_);refine az ?_;obtain ⟨p,p1,p2⟩:=rki.ob.sl.at (fun _=>rfl) gM rfl eP rfl (by decide) rfl hli;have p2:=p2 hi fun _ _ _ _ _=>rfl;have obi:=rki.ob.ob _ (aP hli);have hoi:os[i]'(by omega)=L[i].2:=by subst hos;simp
     have gd:=lg.good _ (show L[i].2∈os by rw [←hoi];exact aP _);rw [da (by omega),hoi] at hg;simp only [rN] at hg;refine ao ?_;refine ap ?_;(try simp only [aE,rL,rD,rB,reduceIte,t21,t23,p1,p2]);refine cz eP ?_;intro h5 b5 n5 f5;refine az ?_;refine cq b5 eP rfl (aI 7) (Oc.one obi) ?_;intro h6 b6 n6 f6;have b6:Has h6 hi.bX (L[i].1.cells L[i].2):=b6;have l6:cx (E g) h6 70 (.ptr hi.bX 0)=some (.agg (L[i].1.cells L[i].2)):=b6.agg eP rfl (aI 7)
     have F6:cH hi h6:=⟨by omega,fun b hb=>by rw [f6.ca b (by omega),f5.ca b hb]⟩;have ob6:=(obi.fix (F6.sub fun b hb=>by have:=rki.le;omega) fun _ h=>h).up (K':=(·<h6.bX)) fun b hb=>by have:=rki.le;omega
     refine ax ?_;(try simp only [aE,rL,rD,rB,reduceIte,l6,t1]);refine (kC ob6 (by have:=gd.nsym;omega)).mono fun v h7 ⟨e7,f7⟩=>?_;subst e7;have x7:=f7.bX;refine az ?_;refine cz eg ?_;intro h8 b8 n8 f8;refine az ?_;generalize hs:eD k L[i].2.ce=s at *;refine cq b8 eg rfl (aI 5) (jD s) ?_;intro h9 b9 n9 f9;have b9:Has h9 h7.bX [.str s.name,i64 s.sec,i64 s.off,.bool s.cn,.bool s.cm]:=b9;have F9:cH hi h9:=⟨by omega,fun b hb=>by rw [f9.ca b (by omega),f8.ca b (by omega),f7.ca b (by omega),F6.ca b hb]⟩
     have rk9:=rki.fix (F9.sub fun b hb=>by have:=rki.le;omega);have G9:Fix (·<hh.bX) hh h9:=fi.trans (F9.sub);refine ax ?_;have hD:isD k w L[i].2=(fg k L[i].2.ce&&(s.cn&&(decide (0<s.sec)&&(s.cm==w)))):=by unfold isD;rw [hs]
     rw [hD] at hg
     rcases (bg (fg k L[i].2.ce)).symm with c1|c1
     ·(try simp only [aE,rL,rD,rB,reduceIte,c1,t7,eC,dz,fH,aH,b9.at ty4 rfl,b9.at ty3 rfl,i64,gX,yb]);refine aw ?_;refine WC.cond (b:=false) (by (try simp only [aE,rL,rD,rB,reduceIte,c1]);(try simp);(try omega)) (WC.skip ?_);refine ax ?_;(try simp only [aE,rL,rD,rB,reduceIte,t23,ct])
      refine ⟨_,?_,_,i+1,rfl,G9,rfl,by omega,?_⟩
      ·omega
      (try simp only [aE,rL,rD,rB,reduceIte,t0,t1,t7,t12,t13,t14,t21,t22]);refine ⟨aD,aD,aD,aD,aD,aD,aD,aD,?_,by rw [hg,if_neg (by simp [c1])]⟩;rw [cy (by omega) (by omega)];rfl
     rcases (bg (s.cn)).symm with c2|c2
     ·(try simp only [aE,rL,rD,rB,reduceIte,c1,c2,t7,eC,dz,fH,aH,b9.at ty4 rfl,b9.at ty3 rfl,i64,gX,yb]);refine aw ?_;refine WC.cond (b:=false) (by (try simp only [aE,rL,rD,rB,reduceIte,c1,c2]);(try simp);(try omega)) (WC.skip ?_);refine ax ?_;(try simp only [aE,rL,rD,rB,reduceIte,t23,ct])
      refine ⟨_,?_,_,i+1,rfl,G9,rfl,by omega,?_⟩
      ·omega
      (try simp only [aE,rL,rD,rB,reduceIte,t0,t1,t7,t12,t13,t14,t21,t22]);refine ⟨aD,aD,aD,aD,aD,aD,aD,aD,?_,by rw [hg,if_neg (by simp [c1,c2])]⟩;rw [cy (by omega) (by omega)];rfl
     rcases (bz (0<s.sec)).symm with c3|c3
     ·(try simp only [aE,rL,rD,rB,reduceIte,c1,c2,aK c3,t7,eC,dz,fH,aH,b9.at ty4 rfl,b9.at ty3 rfl,i64,gX,yb]);refine aw ?_;refine WC.cond (b:=false) (by (try simp only [aE,rL,rD,rB,reduceIte,c1,c2,aK c3]);(try simp);(try omega)) (WC.skip ?_);refine ax ?_;(try simp only [aE,rL,rD,rB,reduceIte,t23,ct])
      refine ⟨_,?_,_,i+1,rfl,G9,rfl,by omega,?_⟩
      ·omega
      (try simp only [aE,rL,rD,rB,reduceIte,t0,t1,t7,t12,t13,t14,t21,t22]);refine ⟨aD,aD,aD,aD,aD,aD,aD,aD,?_,by rw [hg,if_neg (by simp [c1,c2,c3])]⟩;rw [cy (by omega) (by omega)];rfl
     rcases (bg (s.cm==w)).symm with c4|c4
     ·(try simp only [aE,rL,rD,rB,reduceIte,c1,c2,aJ c3,c4,t7,eC,dz,fH,aH,b9.at ty4 rfl,b9.at ty3 rfl,i64,gX,yb]);refine aw ?_;refine WC.cond (b:=false) (by (try simp only [aE,rL,rD,rB,reduceIte,c1,c2,aJ c3,c4]);(try simp);(try omega)) (WC.skip ?_);refine ax ?_;(try simp only [aE,rL,rD,rB,reduceIte,t23,ct])
      refine ⟨_,?_,_,i+1,rfl,G9,rfl,by omega,?_⟩
      ·omega
      (try simp only [aE,rL,rD,rB,reduceIte,t0,t1,t7,t12,t13,t14,t21,t22]);refine ⟨aD,aD,aD,aD,aD,aD,aD,aD,?_,by rw [hg,if_neg (by simp [c1,c2,c3,c4])]⟩;rw [cy (by omega) (by omega)];rfl
     (try simp only [aE,rL,rD,rB,reduceIte,c1,c2,aJ c3,c4,t7,eC,dz,fH,aH,b9.at ty4 rfl,b9.at ty3 rfl,i64,gX,yb]);refine aw ?_;refine WC.cond (b:=true) (by (try simp only [aE,rL,rD,rB,reduceIte,c1,c2,aJ c3,c4]);(try simp);(try omega)) ?_;rw [if_pos (by simp [c1,c2,c3,c4])] at hg;have so:=gd.ce s (by rw [←hs];exact (ng c1).1);have so2:=so.s2;have so3:=gd.off (s:=s) (by rw [←hs];exact (ng c1).1);have so4:=so.o0
     obtain ⟨sec,hsec⟩:∃sec:Nat,s.sec=(sec:Int):=⟨s.sec.toNat,by omega⟩;have s3:=rk9.bs.at (E:=E g) ty2 rfl (i * 3+sec);rw [gw (by omega),jM (by omega) (by omega)] at s3;have ix3:cK (E g) 126 (.ptr stb (i * 3)) (.int .i64 sec)=some (.ptr stb (i * 3+sec)):=by have:=ke (g:=g) (b:=stb) (o:=i * 3) (k:=sec) (ik:=.i64) gK rfl ty2 (show sec<3 by omega);simpa using this
     have hst:=tu lg (sec:=sec) (i:=i) (by omega) (by omega) (by omega)
     have e4:IntKind.i64.wrap (base+(stO os sec i:Nat)+s.off)=base+(stO os s.sec.toNat i:Nat)+s.off:=by
      rw [cy (by omega) (by omega),hsec];rfl
     ((repeat refine WC.seq ?_);refine WC.draw (plans:=Iz) (by kernel_rfl) ?_;simp only [Iz,ak])
     rw [hos] at s3;(try simp (maxSteps:=2000000) only [aE,rL,rD,rB,reduceIte,af,Chk,t0,kX,dz,iJ,aH,rk9.bk.at eK rfl,b9.at ty3 rfl,b9.at ty2 rfl,hsec,i64,ef eK rfl gK hli,ix3,s3,ct,e4]);refine WC.ret ?_;refine az ?_;refine ⟨?_,(f1.trans (ff.sub)).trans (G9.sub)⟩
     have hR:nL base os k=some (base+(stO os s.sec.toNat i:Nat)+s.off):=by
      have hwv:=hw.2;unfold nL
      by_cases hj0:j=0
      ·rw [aK (by omega)] at hwv;rw [←hwv,hg]
      ·rw [aJ (by omega)] at hwv;rw [hw0 (by omega),←hwv,hg]
     rw [hR,hsec];rfl
    ·refine aF (WC.exit ?_);have:i=L.length:=by omega
     subst this;rw [bK (by omega)] at hg;simp only [rN] at hg;(try simp only [aE,rL,rD,rB,reduceIte,nb2]);refine ap ?_;(try simp only [aE,rL,rD,rB,reduceIte,t14,ct])
     refine ⟨_,?_,_,j+1,rfl,ff.trans (fi.sub),rfl,by omega,?_⟩
     ·omega
     (try simp only [aE,rL,rD,rB,reduceIte,t0,t1,t12,t13])
     refine ⟨aD,aD,aD,aD,?_,fun _=>?_,fun _=>?_⟩
     ·rw [cy (by omega) (by omega)];rfl
     ·have hwv:=hw.2
      by_cases hj0:j=0
      ·rw [aK (by omega)] at hwv;rw [←hwv,hg]
      ·exact hw0 (by omega)
     ·have hwv:=hw.2;rw [aJ (by omega)] at hwv;rw [←hwv,hg]
   all_goals (try simp only [aE,rL,rD,rB,reduceIte,t0,t1,t12,t13,t14])
   all_goals (first|done|rfl|trivial|simp)
  ·refine aF (WC.exit ?_);refine ay ?_;refine WC.ret ?_;refine az ?_;refine ⟨?_,f1.trans (ff.sub)⟩;simp only [nL,hw0 (by omega),hw1 (by omega)]
   rfl
 all_goals (try simp only [aE,rL,rD,rB,reduceIte])
 all_goals (first|done|rfl|trivial|simp)
def nH (base:Int) (os:List ObjD) (i:Nat) (o:ObjD) (k:List UInt8):Option Int:=if (eD k o.ce).cn=true then nL base os k else some (base+(stO os (eD k o.ce).sec.toNat i:Nat)+(eD k o.ce).off)
theorem z7 {h:H} {n1 kb stb:Nat} {ls nm:V} {L:List (Oc×ObjD)} {base code cb size:Int} {N:List (List UInt8)} {k:List UInt8} {i:Nat} (rk:Rk g h n1 kb stb ls nm L base code cb size N) (lg:Lg base (L.map (·.2))) (hli:i<L.length) (hk:fg k L[i].2.ce=true) :
  WF (E g) 46 [.ptr kb 0,.int .i64 i,.str k] h fun v h'=>v=resV (nH base (L.map (·.2)) i L[i].2 k)∧cH h h':=by
 have lL:=lg.len;have hlo:(L.map (·.2)).length=L.length:=by simp
 have hb1:=lg.base.most;have hb0:=lg.base.pos;have hle:=rk.le;have hoi:(L.map (·.2))[i]'(by omega)=L[i].2:=by simp
 have gd:=lg.good _ (show L[i].2∈L.map (·.2) by rw [←hoi];exact aP _);obtain ⟨p,p1,p2⟩:=rk.ob.sl.at (fun _=>rfl) gM rfl eP rfl (by decide) rfl hli;have p2:=p2 h fun _ _ _ _ _=>rfl;have obi:=rk.ob.ob _ (aP hli);refine WF.enter fn46 rfl ?_;refine au ?_;refine ap ?_;(try simp only [aE,rL,rD,rB,reduceIte,lU,aH,rk.bk.at gM rfl,p1,p2]);refine (kC (obi.up (K':=(·<h.bX)) fun b hb=>by omega) (by have:=gd.nsym;omega)).mono fun v h7 ⟨e7,f7⟩=>?_
 subst e7;have x7:=f7.bX;refine az ?_;refine cz eg ?_;intro h8 b8 n8 f8;refine az ?_;have gm:=ng hk;have hA:nH base (L.map (·.2)) i L[i].2 k=if (eD k L[i].2.ce).cn=true then nL base (L.map (·.2)) k else some (base+(stO (L.map (·.2)) (eD k L[i].2.ce).sec.toNat i:Nat)+(eD k L[i].2.ce).off):=rfl;generalize hs:eD k L[i].2.ce=s at *;refine cq b8 eg rfl (aI 5) (jD s) ?_;intro h9 b9 n9 f9;have b9:Has h9 h7.bX [.str s.name,i64 s.sec,i64 s.off,.bool s.cn,.bool s.cm]:=b9
 have F9:cH h h9:=⟨by omega,fun b hb=>by rw [f9.ca b (by omega),f8.ca b (by omega),f7.ca b hb]⟩;have rk9:=rk.fix (F9.sub);refine ax ?_;(try simp only [aE,rL,rD,rB,reduceIte,eC,aH,b9.at ty4 rfl,cY]);refine aw ?_
 cases hg:s.cn with
 | false =>
  refine WC.cond (b:=true) (by (try simp only [aE,rL,rD,rB,reduceIte,hg]);(try simp);(try omega)) ?_;rw [if_neg (by rw [hg];decide)] at hA;have so:=gd.ce s gm.1;have so2:=so.s2;have so3:=gd.off gm.1;have so4:=so.o0;have so5:=so.s0;have so6:=(so.gl hg).1;obtain ⟨sec,hsec⟩:∃sec:Nat,s.sec=(sec:Int):=⟨s.sec.toNat,by omega⟩;have s3:=rk9.bs.at (E:=E g) ty2 rfl (i * 3+sec);rw [gw (by omega),jM (by omega) (by omega)] at s3
  have ix3:cK (E g) 126 (.ptr stb (i * 3)) (.int .i64 sec)=some (.ptr stb (i * 3+sec)):=by have:=ke (g:=g) (b:=stb) (o:=i * 3) (k:=sec) (ik:=.i64) gK rfl ty2 (show sec<3 by omega);simpa using this
  have hst:=tu lg (sec:=sec) (i:=i) (by omega) (by omega) (by omega)
  have e4:IntKind.i64.wrap (base+(stO (L.map (·.2)) sec i:Nat)+s.off)=base+(stO (L.map (·.2)) s.sec.toNat i:Nat)+s.off:=by
   rw [cy (by omega) (by omega),hsec];rfl
  ((repeat refine WC.seq ?_);refine WC.draw (plans:=IA) (by kernel_rfl) ?_;simp only [IA,ak])
  (try simp (maxSteps:=2000000) only [aE,rL,rD,rB,reduceIte,af,Chk,kX,dz,iJ,aH,rk9.bk.at eK rfl,b9.at ty3 rfl,b9.at ty2 rfl,hsec,i64,ef eK rfl gK hli,ix3,s3,ct,e4]);refine WC.ret ?_;refine az ?_;refine ⟨?_,F9⟩;rw [hA,hsec];rfl
 | true =>
  refine WC.cond (b:=false) (by (try simp only [aE,rL,rD,rB,reduceIte,hg]);(try simp);(try omega)) (WC.skip ?_);rw [if_pos hg] at hA;refine ay ?_;refine (uy rk9 lg).mono fun v h10 ⟨e10,f10⟩=>?_;subst e10;(try simp only [aE,rL,rD,rB,reduceIte,resV]);refine WC.ret ?_;refine az ?_;exact ⟨by rw [hA],F9.trans (f10.sub)⟩
def mO (cb:Int) (k:List UInt8):Nat→List (List UInt8)→Int
 | _,[]=>0
 | j,s::r=>if s=k then cb+8 * (j:Nat) else mO cb k (j+1) r
theorem wB {h:H} {n1 kb stb:Nat} {ls nm:V} {L:List (Oc×ObjD)} {base code cb size:Int} {N:List (List UInt8)} {k:List UInt8} (rk:Rk g h n1 kb stb ls nm L base code cb size N) (s0:0≤cb) (s1:cb<2^40) (lN:N.length≤2^20) :
  WF (E g) 47 [.ptr kb 0,.str k] h fun v h'=>v=i64 (mO cb k 0 N)∧cH h h':=by
 refine WF.enter fn47 rfl ?_;refine au ?_;refine ap ?_;(try simp only [aE,rL,rD,rB,reduceIte,tQ,aH,rk.bk.at cD rfl,Sl.lenB rk.ss cD rfl]);refine ao ?_
 refine WC.while (fun m fr hh=>∃ts j,fr=⟨ts,28,[],47,none⟩∧hh=h∧m=N.length - j∧j≤N.length∧ts.get 0=some (.ptr kb 0)∧ts.get 1=some (.str k)∧ts.get 10=some nm∧ts.get 11=some (.int .i64 N.length)∧ts.get 12=some (.int .i64 j)∧mO cb k 0 N=mO cb k j (N.drop j)) ?_ ⟨_,0,rfl,rfl,rfl,by omega,?_,?_,?_,?_,?_,by simp⟩
 ·rintro m fr hh ⟨ts,j,rfl,rfl,rfl,hj,t0,t1,t10,t11,t12,hs⟩
  refine ap ?_;(try simp only [aE,rL,rD,rB,reduceIte,t11,t12]);refine aw ?_
  by_cases hlt:j<N.length
  ·refine aG (WC.skip ?_);refine az ?_;obtain ⟨p,p1,p2⟩:=rk.ss.at cD rfl ty9 rfl rfl hlt;have p2:=p2 hh fun _ _ _ _ _=>rfl;rw [da hlt] at hs;simp only [mO] at hs;refine ao ?_;refine ap ?_;(try simp only [aE,rL,rD,rB,reduceIte,t10,t12,p1,p2]);refine ap ?_;(try simp only [aE,rL,rD,rB,reduceIte,t1,gH]);refine aw ?_
   cases he:(N[j]==k) with
   | true =>
    rw [if_pos (eq_of_beq he)] at hs;refine WC.cond (b:=true) (by (try simp only [aE,rL,rD,rB,reduceIte,he]);(try simp);(try omega)) ?_;refine ap ?_;(try simp only [aE,rL,rD,rB,reduceIte,t0,E7,aH,rk.bk.at ty2 rfl,i64,vL,ct]);refine WC.ret ?_;refine az ?_;refine ⟨?_,Fix.refl _ _⟩;rw [hs,cy (n:=8 * (j:Int)) (by omega) (by omega),cy (by omega) (by omega)]
   | false =>
    rw [if_neg (fun e=>by rw [e] at he;simp at he)] at hs;refine WC.cond (b:=false) (by (try simp only [aE,rL,rD,rB,reduceIte,he]);(try simp);(try omega)) (WC.skip ?_);refine ax ?_;(try simp only [aE,rL,rD,rB,reduceIte,t12,ct])
    refine ⟨_,?_,_,j+1,rfl,aD,rfl,by omega,?_⟩
    ·omega
    (try simp only [aE,rL,rD,rB,reduceIte,t0,t1,t10,t11]);refine ⟨aD,aD,aD,aD,?_,hs⟩;rw [cy (by omega) (by omega)];rfl
  ·refine aF (WC.exit ?_);have:j=N.length:=by omega
   subst this;rw [bU] at hs;simp only [mO] at hs;refine ay ?_;refine WC.ret ?_;refine az ?_;exact ⟨by rw [hs];rfl,Fix.refl _ _⟩
 all_goals (try simp only [aE,rL,rD,rB,reduceIte])
 all_goals (first|done|rfl|trivial|simp)
end Go.Proofs.OP
