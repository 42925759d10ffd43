/- Walks: PutUint32, (*linker).relocate. Printed by genL7.py. -/
import Derived.Test.YtloblhhnlaaajaaDoorY36
set_option maxHeartbeats 32000000
set_option maxRecDepth 100000
set_option linter.unusedVariables false
set_option linter.unusedSimpArgs false
set_option linter.defProp false
namespace Go.Proofs.OP
open Go Go.Ev
open Go.Proofs
open Nat renaming reduceLT → rL, reduceEqDiff → rD, reduceBEq → rB
variable {g : T (List V)}
def U4 (n:Int):Nat:=(n % 4294967296).toNat
theorem U4_lt (n:Int):U4 n<2^64:=by unfold U4;omega
theorem ml (n:Int):IntKind.u32.wrap n=(U4 n:Int):=by
 unfold IntKind.wrap U4;simp only [IntKind.bits,IntKind.signed,Bool.false_and,Bool.false_eq_true,if_false];omega
theorem CH (n:Int):IntKind.u64.wrap (U4 n:Int)=(U4 n:Int):=by
 rw [mg,Fx (by unfold U4;omega)]
theorem wK {h:H} {b l n':Nat} {n:Int} {c':Cp} {xs:List UInt8} (a:At h b 0 (xs.map u8)) (hb:b<h.bX) (hl:l+4≤xs.length) (hn':4≤n') :
  WF (E g) 91 [.agg [],.slice b l n' c',.int .u32 (U4 n:Nat)] h fun _ h'=>At h' b 0 ((er xs l (leB (U4 n) 4)).map u8)∧Fix (fun c=>c<h.bX∧c≠b) h h':=by
 refine WF.enter fn91 rfl ?_;refine au ?_;refine eI (v:=.agg []) (by (try simp only [aE,rL,rD,rB,reduceIte])) ?_;intro h1 b1 n1 f1;refine ax ?_;(try simp only [aE,rL,rD,rB,reduceIte,ft tp rP rfl,CH]);refine (Fs (k:=4) (a.fix f1 hb) hl (by omega) hn' (U4_lt n)).mono fun v h2 ⟨a2,n2,f2⟩=>?_;refine az ?_;exact ⟨a2,⟨by omega,fun c hc=>by rw [f2.ca c hc.2,f1.ca c hc.1]⟩⟩
theorem zL {k:Nat} (hk:k<3):cK (E g) 185 (.gp 0 0) (.int .i64 k)=some (.gp 0 (0+k * 2)):=by
 have h1:Nat.blt k 3=true:=gF hk;simp only [cK,ty185,fW,h1,cond_true,cL HL,bo]
theorem sh {h:H} {o:Nat} (hg:g.get 0=some jA):cx (E g) h 4 (.gp 0 o)=(match nth jA o with|some v=>bif v.one then some v else none|none=>none):=by
 simp only [cx,rX,ty4,oz,hg]
 rfl
theorem AR:∀{ys:List SymD} {S:Sm} {k:List UInt8} {s:SymD},al k (nJ ys S)=some s→s∈ys∨al k S=some s
 | [],S,k,s,h=>.inr h
 | y::r,S,k,s,h=>by
  rcases AR (ys:=r) h with q|q
  ·exact .inl (aM _ q)
  ·rw [vp] at q
   split at q
   ·injection q with q;exact .inl (by rw [q];exact aT ..)
   ·exact .inr q
def H8 (base:Int) (os:List ObjD) (own:Sm) (D:Dm) (S:St) (i:Nat) (r:RelD):Int :=
 if r.kind=2 then r.add+(al r.sym S).getD 0 else
  if r.kind=1 then r.add+adr base os D i ((al r.sym own).getD oB) - (base+(stO os r.sec.toNat i:Nat)+r.off) else r.add+adr base os D i ((al r.sym own).getD oB)
def yy (base:Int) (os:List ObjD) (own:Sm) (D:Dm) (S:St) (i:Nat):List RelD→List UInt8→List UInt8
 | [],bs=>bs
 | r::rest,bs=>yy base os own D S i rest (er bs (stO os r.sec.toNat i+r.off.toNat) (leB (U4 (H8 base os own D S i r)) 4))
def sG (base:Int) (os:List ObjD) (D:Dm) (S:St):Nat→List ObjD→List UInt8→List UInt8
 | _,[],bs=>bs
 | i,o::r,bs=>sG base os D S (i+1) r (yy base os (nJ o.ce []) D S i o.ci bs)
def GoodR (os:List ObjD) (N i:Nat) (r:RelD):Prop:=1≤r.sec∧r.sec≤2∧0≤r.off∧stO os r.sec.toNat i+r.off.toNat+4≤N∧0≤r.kind∧r.kind<3∧-(2^31)≤r.add∧r.add≤2^31
def Fz (s:SymD):Prop:=0≤s.sec∧s.sec≤2∧0≤s.off∧s.off≤16384
theorem Hr {base:Int} {os:List ObjD} {D:Dm} {i n:Nat} {s:SymD} (z:Lsz os base n) (hi:i<n) (hA:∀p∈D,0≤p.2.cl∧p.2.cl≤2^40) (hs:s.sec≠0→Fz s):0≤adr base os D i s∧adr base os D i s≤2^40:=by
 have hb0:=z.bas.pos;have hb1:=z.bas.most;unfold adr
 split
 ·rename_i q;obtain ⟨q1,q2,q3,q4⟩:=hs q.1;have:=z.st s.sec.toNat i (by have:=q.1;omega) (by omega) hi;omega
 ·cases hal:al s.name D with
  | none=>exact ⟨Int.le_refl _,by decide⟩
  | some G=>exact hA _ (AC hal)
theorem Bw {n0 kb db sb stb bb N:Nat} {h:H} {ls x y w:V} {L:List (Oc×ObjD)} {base code entry:Int} {D:Dm} {S:St} {bs0:List UInt8} (hg:g.get 0=some jA) (hn0:n0≤h.bX) (a:Obs g h (·<n0) ls L) (fL:∀p∈L,Fits p.2)
  (m:LkM g h kb db sb stb ls L.length (L.map (·.2)) base D S (imV base bb N code entry x y w)) (z:Lsz (L.map (·.2)) base L.length) (k0:n0≤kb) (b0:n0≤bb) (hbb:bb<h.bX) (bk:bb≠kb) (bd:bb≠db) (bsb:bb≠sb) (bst:bb≠stb) (hA:∀p∈D,0≤p.2.cl∧p.2.cl≤2^40) (hS:∀p∈S,0≤p.2∧p.2≤2^40)
  (bb0:At h bb 0 (bs0.map u8)) (l0:bs0.length=N) (hN:N≤2^30) (gR:∀i (hi:i<L.length),∀r∈L[i].2.ci,GoodR (L.map (·.2)) N i r) (gS:∀i (hi:i<L.length),∀s∈L[i].2.ce,Fz s) :
  WF (E g) 36 [.ptr kb 0] h fun _ h'=>Fix (fun b=>b<h.bX∧b≠bb) h h'∧At h' bb 0 ((sG base (L.map (·.2)) D S 0 (L.map (·.2)) bs0).map u8):=by
 have hb0:=z.bas.pos;have hb1:=z.bas.most;have lL:=z.few;have kn:=m.kn;have dn:=m.dn;have sn:=m.sn;have tn:=m.tn;generalize hos:L.map (·.2)=os at *;refine WF.enter fn36 rfl ?_;refine ap ?_;(try simp only [aE,rL,rD,rB,reduceIte,lV,aH,m.bk.at jr rfl,Sl.lenB a.sl jr rfl]);refine ao ?_
 refine WC.while (fun mm fr hh=>∃ts i bs,fr=⟨ts,92,[],36,none⟩∧Fix (fun b=>b<h.bX∧b≠bb) h hh∧mm=L.length - i∧i≤L.length∧ts.get 0=some (.ptr kb 0)∧ts.get 12=some ls∧ts.get 13=some (.int .i64 L.length)∧ts.get 14=some (.int .i64 i)∧At hh bb 0 (bs.map u8)∧bs.length=N∧sG base os D S i (os.drop i) bs=sG base os D S 0 os bs0) ?_ ⟨_,0,bs0,rfl,Fix.refl _ _,rfl,by omega,?_,?_,?_,?_,bb0,l0,rfl⟩
 ·rintro mm fr hh ⟨ts,i,bs,rfl,ff,rfl,hi,t0,t12,t13,t14,bbh,lbs,hB⟩
  have xh:=ff.bX;have ah:=a.fix ff;have mh:=m.fix ff ⟨by omega,by omega⟩ ⟨by omega,by omega⟩ ⟨by omega,by omega⟩ ⟨by omega,by omega⟩;refine ap ?_;(try simp only [aE,rL,rD,rB,reduceIte,t13,t14]);refine aw ?_
  by_cases hlt:i<L.length
  ·refine aG (WC.skip ?_);refine az ?_;obtain ⟨p,p1,p2⟩:=ah.sl.at (fun _=>rfl) jr rfl iq rfl (by decide) rfl hlt;have p2:=p2 hh fun _ _ _ _ _=>rfl;have hmem:=aP hlt;have obi:=ah.ob _ hmem;have fit:=fL _ hmem;have fre:=fit.ci;have hoi:os[i]'(by rw [z.len];exact hlt)=L[i].2:=by subst hos;simp
   rw [da (by rw [z.len];exact hlt),hoi] at hB;simp only [sG] at hB;have gRi:=gR i hlt;have gSi:=gS i hlt;refine ao ?_;refine ap ?_;(try simp only [aE,rL,rD,rB,reduceIte,t12,t14,p1,p2]);refine cz iq ?_;intro h4 b4 n4 f4;refine az ?_;refine cq b4 iq rfl (aI 7) (Oc.one obi) ?_;intro h5 b5 n5 f5;have c5:Has h5 hh.bX (L[i].1.cells L[i].2):=b5;have b5:Has h5 hh.bX [.str L[i].2.name,L[i].1.code,L[i].1.data,L[i].1.ce,L[i].1.ci,L[i].1.cf,.str L[i].2.entry]:=b5
   have F5:cH hh h5:=⟨by omega,fun b hb=>by rw [f5.ca b (by omega),f4.ca b hb]⟩;have ob5:=obi.fix F5;have l5:cx (E g) h5 77 (.ptr hh.bX 0)=some (.agg (L[i].1.cells L[i].2)):=c5.agg iq rfl (aI 7);refine ax ?_;(try simp only [aE,rL,rD,rB,reduceIte,l5]);refine (vV (ob5.up) fit).mono fun v h6 ⟨ob,e6,o1,o2,mo,f6⟩=>?_;subst e6;have x6:=f6.bX;have F6:cH hh h6:=⟨by omega,fun b hb=>by rw [f6.ca b (by omega),F5.ca b hb]⟩
   have m6:=mh.kept F6;have bb6:=bbh.fix F6;have b6:=b5.fix f6;have ob6:=ob5.fix f6
   have gown:∀k s,al k (nJ L[i].2.ce [])=some s→Fz s:=fun k s hk=>by
    rcases AR hk with q|q
    ·exact gSi s q
    ·cases q
   generalize hown:nJ L[i].2.ce []=own at mo hB gown;have l6:cx (E g) h6 75 (.ptr hh.bX 4)=some L[i].1.ci:=b6.at mF rfl 4;refine ax ?_;(try simp only [aE,rL,rD,rB,reduceIte,qL,aH,l6,Sl.lenB ob6.ci mF rfl]);refine ao ?_
   refine WC.while (fun mm fr hj=>∃ts j bs2,fr=⟨ts,92,[],36,none⟩∧Fix (fun b=>b<h6.bX∧b≠bb) h6 hj∧mm=L[i].2.ci.length - j∧j≤L[i].2.ci.length∧ts.get 0=some (.ptr kb 0)∧ts.get 2=some (.int .i64 i)∧ts.get 4=some (.map ob)∧ts.get 12=some ls∧ts.get 13=some (.int .i64 L.length)∧ts.get 14=some (.int .i64 i)∧ts.get 22=some L[i].1.ci∧ts.get 23=some (.int .i64 L[i].2.ci.length)∧ts.get 24=some (.int .i64 j)∧At hj bb 0 (bs2.map u8)∧bs2.length=N∧yy base os own D S i (L[i].2.ci.drop j) bs2=yy base os own D S i L[i].2.ci bs) ?_ ⟨_,0,bs,rfl,Fix.refl _ _,rfl,by omega,?_,?_,?_,?_,?_,?_,?_,?_,?_,bb6,lbs,rfl⟩
   ·rintro mm fr hj ⟨ts,j,bs2,rfl,fj,rfl,hjl,t0,t2,t4,t12,t13,t14,t22,t23,t24,bbj,lb2,hR⟩
    have xj:=fj.bX;have obj:=ob6.fix fj;have mj:=m6.fix fj ⟨by omega,by omega⟩ ⟨by omega,by omega⟩ ⟨by omega,by omega⟩ ⟨by omega,by omega⟩;have moj:=mo.fix fj ⟨by omega,by omega⟩;refine ap ?_;(try simp only [aE,rL,rD,rB,reduceIte,t23,t24]);refine aw ?_
    by_cases hlj:j<L[i].2.ci.length
    ·refine aG (WC.skip ?_);refine az ?_;obtain ⟨p,p1,p2⟩:=obj.ci.at jh mF rfl qd rfl (by decide) rfl hlj;have p2:=p2 hj fun _ _ _ _ _=>rfl;have gr:=gRi _ (aP hlj);rw [da hlj] at hR;generalize hr:L[i].2.ci[j]=r at p2 gr hR;simp only [yy] at hR;obtain ⟨g1,g2,g3,g4,g5,g6,g7,g8⟩:=gr;obtain ⟨sec,hse⟩:∃sec:Nat,r.sec=(sec:Int):=⟨r.sec.toNat,by omega⟩;obtain ⟨off,hof⟩:∃off:Nat,r.off=(off:Int):=⟨r.off.toNat,by omega⟩
     have e2:r.sec.toNat=sec:=by omega
     have e3:r.off.toNat=off:=by omega
     rw [e2,e3] at g4 hR;have hst:=z.st sec i (by omega) (by omega) hlt;refine ao ?_;refine ap ?_;(try simp only [aE,rL,rD,rB,reduceIte,t22,t24,p1,p2]);refine cz qd ?_;intro h7 b7 n7 f7;refine az ?_;refine cq b7 qd rfl (aI 5) (oX r) ?_;intro h8 b8 n8 f8;have b8:Has h8 hj.bX [i64 r.sec,i64 r.off,i64 r.kind,.str r.sym,i64 r.add]:=b8;have F8:cH hj h8:=⟨by omega,fun b hb=>by rw [f8.ca b (by omega),f7.ca b hb]⟩
     have m8:=mj.kept F8;have mo8:=moj.fix F8;have bb8:=bbj.fix F8;have s3:=AX (g:=g) m8.bs hlt (show 1≤sec by omega) (show sec≤2 by omega);have ew:IntKind.i64.wrap (base+(stO os sec i:Nat)+r.off)=base+(stO os sec i:Nat)+off:=by rw [cy (by omega) (by omega),hof]
     have ep:IntKind.i64.wrap (base+(stO os sec i:Nat)+off - base)=((stO os sec i+off:Nat):Int):=by rw [cy (by omega) (by omega)];omega
     obtain ⟨c',hsl⟩:=sB (E:=E g) (b:=bb) (o:=0) (k:=.i64) cM rfl (cL ty5) (Or.inl rfl) (show stO os sec i+off<N by omega);simp only [aH,bL] at hsl;refine az ?_
     ((repeat refine WC.seq ?_);refine WC.draw (plans:=IE) (by kernel_rfl) ?_;simp only [IE,ak])
     (try simp (maxSteps:=2000000) only [aE,rL,rD,rB,reduceIte,af,Chk,t0,t2,kh,iV,iU,aH,m8.bk.at eK rfl,b8.at ty3 rfl,b8.at ty2 rfl,hse,i64,ef eK rfl gK hlt,AW (show sec≤2 by omega),s3,ct,ew]);refine ap ?_;(try simp only [aE,rL,rD,rB,reduceIte,jQ,aH,b8.at ty2 rfl]);refine ap ?_;have lk8:=sj (E:=E g) (z:=(0:Int)) (k:=r.sym) m8.ms ld rfl ty9 rfl ty2 rfl;have lo8:=sj (E:=E g) (z:=oB) (k:=r.sym) mo8 HM rfl ty9 rfl j5 rfl
     have hsb:0≤(al r.sym S).getD 0∧(al r.sym S).getD 0≤2^40:=by
      cases hal:al r.sym S with
      | none=>exact ⟨Int.le_refl _,by decide⟩
      | some v=>exact hS _ (AC hal)
     have gsy:((al r.sym own).getD oB).sec≠0→Fz ((al r.sym own).getD oB):=fun hne=>by
      cases hal:al r.sym own with
      | none=>rw [hal] at hne;exact absurd rfl hne
      | some s=>exact gown _ _ hal
     have hab:=Hr (D:=D) z hlt hA gsy;have ladr:(sV ((al r.sym own).getD oB))=.agg (iD ((al r.sym own).getD oB)):=rfl;rw [ladr] at lo8;have hN1:H8 base os own D S i r=(if r.kind=2 then r.add+(al r.sym S).getD 0 else if r.kind=1 then r.add+adr base os D i ((al r.sym own).getD oB) - (base+(stO os sec i:Nat)+off) else r.add+adr base os D i ((al r.sym own).getD oB)):=by unfold H8;rw [e2,hof]
     rw [hN1] at hR;have l8':∀nn:Nat,(er bs2 (stO os sec i+off) (leB nn 4)).length=N:=fun nn=>by rw [dP (by rw [dw];omega),lb2]
     have k2:r.kind=2∨r.kind=1∨r.kind=0:=by omega
     have hgs:(V.int .i64 ((2:Nat):Int))=.int .i64 2:=rfl
     rcases k2 with hk|hk|hk
     ·rw [if_pos hk] at hR;(try simp only [aE,rL,rD,rB,reduceIte,ni,aH,b8.at ty3 rfl,hk,i64,zL (g:=g) (show 2<3 by decide),vJ,sh hg]);have v2:=zL (g:=g) (k:=2) (by decide);have v2:cK (E g) 185 (.gp 0 0) (.int .i64 2)=some (.gp 0 4):=v2;(try simp only [aE,rL,rD,rB,reduceIte,v2,vJ,sh hg,jA,nth,V.one]);refine aw ?_;refine aG ?_;refine az ?_
      ((repeat refine WC.seq ?_);refine WC.draw (plans:=Em) (by kernel_rfl) ?_;simp only [Em,ak])
      (try simp (maxSteps:=2000000) only [aE,rL,rD,rB,reduceIte,af,Chk,t0,oq,uD,aH,m8.bk.at ld rfl,b8.at ty9 rfl,fP,dj,lk8,i64,ct]);refine ap ?_;(try simp only [aE,rL,rD,rB,reduceIte,ni,aH,b8.at ty3 rfl,hk,i64,v2,Am,sh hg,jA,nth,V.one]);refine aw ?_;refine aF (WC.skip ?_);refine az ?_;have eX:IntKind.i64.wrap (r.add+(al r.sym S).getD 0)=r.add+(al r.sym S).getD 0:=cy (by omega) (by omega);rw [eX]
      ((repeat refine WC.seq ?_);refine WC.draw (plans:=rf) (by kernel_rfl) ?_;simp only [rf,ak])
      (try simp (maxSteps:=2000000) only [aE,rL,rD,rB,reduceIte,af,Chk,t0,eJ,dF,dX,aH,m8.bk.at ty2 rfl,m8.bk.at cM rfl,i64,cF,ep,hsl,ft ty2 tp rfl,ml]);refine (zg).mono fun v hA1 ⟨eA,fA⟩=>?_;subst eA;have xA:=fA.bX;have mA:=m8.kept fA;(try simp (maxSteps:=2000000) only [aE,rL,rD,rB,reduceIte,af,Chk,t0,eJ,dF,dX,aH,mA.bk.at ty2 rfl,mA.bk.at cM rfl,i64,cF,ep,hsl,ft ty2 tp rfl,ml]);refine (wK (bb8.fix fA) (by omega) (show stO os sec i+off+4≤bs2.length by omega) (by omega)).mono fun v hB1 ⟨aB,fB⟩=>?_
      have xB:=fB.bX;refine am ?_;refine ap ?_;(try simp only [aE,rL,rD,rB,reduceIte,t24,ct])
      refine ⟨_,?_,_,j+1,_,rfl,⟨by omega,fun b hb=>by rw [fB.ca b ⟨by omega,hb.2⟩,fA.ca b (by omega),F8.ca b (by omega),fj.ca b hb]⟩,rfl,by omega,?_,?_,?_,?_,?_,?_,?_,?_,?_,aB,l8' _,hR⟩
      ·omega
      all_goals (try simp only [aE,rL,rD,rB,reduceIte,t0,t2,t4,t12,t13,t14,t22,t23])
      rw [cy (by omega) (by omega)];rfl
     ·rw [if_neg (by omega),if_pos hk] at hR;have v1:cK (E g) 185 (.gp 0 0) (.int .i64 1)=some (.gp 0 2):=zL (g:=g) (k:=1) (by decide);(try simp only [aE,rL,rD,rB,reduceIte,ni,aH,b8.at ty3 rfl,hk,i64,v1,vJ,sh hg,jA,nth,V.one]);refine aw ?_;refine aF ?_;refine ax ?_;(try simp only [aE,rL,rD,rB,reduceIte,t0,t2,t4,uD,aH,b8.at ty9 rfl,dj,lo8]);refine (yj m8 z hlt (fun q _=>by obtain ⟨q1,q2,q3,q4⟩:=gsy q;omega)).mono fun v h9 ⟨e9,f9⟩=>?_
      subst e9;have x9:=f9.bX;(try simp only [aE,rL,rD,rB,reduceIte,i64,ct]);have b9:=b8.fix f9;refine ap ?_;(try simp only [aE,rL,rD,rB,reduceIte,ni,aH,b9.at ty3 rfl,hk,i64,v1,Am,sh hg,jA,nth,V.one]);refine aw ?_;refine aG ?_;refine ax ?_;(try simp only [aE,rL,rD,rB,reduceIte,cF]);have eX:IntKind.i64.wrap (IntKind.i64.wrap (r.add+adr base os D i ((al r.sym own).getD oB)) - (base+(stO os sec i:Nat)+off))=r.add+adr base os D i ((al r.sym own).getD oB) - (base+(stO os sec i:Nat)+off):=by rw [cy (n:=r.add+adr base os D i ((al r.sym own).getD oB)) (by omega) (by omega),cy (by omega) (by omega)]
      rw [eX];have m9:=m8.kept f9;have bb9:=bb8.fix f9
      ((repeat refine WC.seq ?_);refine WC.draw (plans:=rf) (by kernel_rfl) ?_;simp only [rf,ak])
      (try simp (maxSteps:=2000000) only [aE,rL,rD,rB,reduceIte,af,Chk,t0,eJ,dF,dX,aH,m9.bk.at ty2 rfl,m9.bk.at cM rfl,i64,cF,ep,hsl,ft ty2 tp rfl,ml]);refine (zg).mono fun v hA1 ⟨eA,fA⟩=>?_;subst eA;have xA:=fA.bX;have mA:=m9.kept fA;(try simp (maxSteps:=2000000) only [aE,rL,rD,rB,reduceIte,af,Chk,t0,eJ,dF,dX,aH,mA.bk.at ty2 rfl,mA.bk.at cM rfl,i64,cF,ep,hsl,ft ty2 tp rfl,ml]);refine (wK (bb9.fix fA) (by omega) (show stO os sec i+off+4≤bs2.length by omega) (by omega)).mono fun v hB1 ⟨aB,fB⟩=>?_
      have xB:=fB.bX;refine am ?_;refine ap ?_;(try simp only [aE,rL,rD,rB,reduceIte,t24,ct])
      refine ⟨_,?_,_,j+1,_,rfl,⟨by omega,fun b hb=>by rw [fB.ca b ⟨by omega,hb.2⟩,fA.ca b (by omega),f9.ca b (by omega),F8.ca b (by omega),fj.ca b hb]⟩,rfl,by omega,?_,?_,?_,?_,?_,?_,?_,?_,?_,aB,l8' _,hR⟩
      ·omega
      all_goals (try simp only [aE,rL,rD,rB,reduceIte,t0,t2,t4,t12,t13,t14,t22,t23])
      rw [cy (by omega) (by omega)];rfl
     ·rw [if_neg (by omega),if_neg (by omega)] at hR;have v0:cK (E g) 185 (.gp 0 0) (.int .i64 0)=some (.gp 0 0):=zL (g:=g) (k:=0) (by decide);(try simp only [aE,rL,rD,rB,reduceIte,ni,aH,b8.at ty3 rfl,hk,i64,v0,vJ,sh hg,jA,nth,V.one]);refine aw ?_;refine aF ?_;refine ax ?_;(try simp only [aE,rL,rD,rB,reduceIte,t0,t2,t4,uD,aH,b8.at ty9 rfl,dj,lo8]);refine (yj m8 z hlt (fun q _=>by obtain ⟨q1,q2,q3,q4⟩:=gsy q;omega)).mono fun v h9 ⟨e9,f9⟩=>?_
      subst e9;have x9:=f9.bX;(try simp only [aE,rL,rD,rB,reduceIte,i64,ct]);have b9:=b8.fix f9;refine ap ?_;(try simp only [aE,rL,rD,rB,reduceIte,ni,aH,b9.at ty3 rfl,hk,i64,v0,Am,sh hg,jA,nth,V.one]);refine aw ?_;refine aF (WC.skip ?_);refine az ?_;have eX:IntKind.i64.wrap (r.add+adr base os D i ((al r.sym own).getD oB))=r.add+adr base os D i ((al r.sym own).getD oB):=cy (by omega) (by omega);rw [eX]
      have m9:=m8.kept f9;have bb9:=bb8.fix f9
      ((repeat refine WC.seq ?_);refine WC.draw (plans:=rf) (by kernel_rfl) ?_;simp only [rf,ak])
      (try simp (maxSteps:=2000000) only [aE,rL,rD,rB,reduceIte,af,Chk,t0,eJ,dF,dX,aH,m9.bk.at ty2 rfl,m9.bk.at cM rfl,i64,cF,ep,hsl,ft ty2 tp rfl,ml]);refine (zg).mono fun v hA1 ⟨eA,fA⟩=>?_;subst eA;have xA:=fA.bX;have mA:=m9.kept fA;(try simp (maxSteps:=2000000) only [aE,rL,rD,rB,reduceIte,af,Chk,t0,eJ,dF,dX,aH,mA.bk.at ty2 rfl,mA.bk.at cM rfl,i64,cF,ep,hsl,ft ty2 tp rfl,ml]);refine (wK (bb9.fix fA) (by omega) (show stO os sec i+off+4≤bs2.length by omega) (by omega)).mono fun v hB1 ⟨aB,fB⟩=>?_
      have xB:=fB.bX;refine am ?_;refine ap ?_;(try simp only [aE,rL,rD,rB,reduceIte,t24,ct])
      refine ⟨_,?_,_,j+1,_,rfl,⟨by omega,fun b hb=>by rw [fB.ca b ⟨by omega,hb.2⟩,fA.ca b (by omega),f9.ca b (by omega),F8.ca b (by omega),fj.ca b hb]⟩,rfl,by omega,?_,?_,?_,?_,?_,?_,?_,?_,?_,aB,l8' _,hR⟩
      ·omega
      all_goals (try simp only [aE,rL,rD,rB,reduceIte,t0,t2,t4,t12,t13,t14,t22,t23])
      rw [cy (by omega) (by omega)];rfl
    ·refine aF (WC.exit ?_);have:j=L[i].2.ci.length:=by omega
     subst this;rw [bU] at hR;simp only [yy] at hR;rw [←hR] at hB;(try simp only [aE,rL,rD,rB,reduceIte,nb2]);refine ap ?_;(try simp only [aE,rL,rD,rB,reduceIte,t14,ct])
     refine ⟨_,?_,_,i+1,bs2,rfl,⟨by omega,fun b hb=>by rw [fj.ca b ⟨by omega,hb.2⟩,F6.ca b (by omega),ff.ca b hb]⟩,rfl,by omega,?_⟩
     ·omega
     (try simp only [aE,rL,rD,rB,reduceIte,t0,t12,t13]);refine ⟨aD,aD,aD,?_,bbj,lb2,hB⟩;rw [cy (by omega) (by omega)];rfl
   all_goals (try simp only [aE,rL,rD,rB,reduceIte,t0,t12,t13,t14])
   all_goals (first|done|rfl|trivial|simp)
  ·refine aF (WC.exit ?_);have:i=L.length:=by omega
   subst this;rw [bK (by rw [z.len];exact aI _)] at hB;simp only [sG] at hB;subst hB;refine az ?_;exact ⟨ff,bbh⟩
 all_goals (try simp only [aE,rL,rD,rB,reduceIte])
 all_goals (first|done|rfl|trivial|simp)
end Go.Proofs.OP
