/- Walks: (*linker).address, (*linker).entry. Printed by genL6.py. -/
import Derived.Test.YtloblhhnlaaajaaDoorY35
set_option maxHeartbeats 16000000
set_option maxRecDepth 100000
set_option linter.unusedVariables false
set_option linter.unusedSimpArgs false
set_option linter.defProp false
namespace Go.Proofs.OP
open Go Go.Ev
open Go.Proofs
open Nat renaming reduceLT → rL, reduceEqDiff → rD, reduceBEq → rB
variable {g : T (List V)}
theorem nb1:Nat.beq 1 1=true:=rfl
theorem nb0:Nat.beq 0 0=true:=rfl
theorem kz {a b:Int} (h:¬a=b):(a != b)=true:=by simp [h]
theorem p7 {a b:Int} (h:a=b):(a != b)=false:=by simp [h]
theorem beqL_t {a b:List UInt8} (h:a=b):(a==b)=true:=by simp [h]
theorem beqL_f {a b:List UInt8} (h:¬a=b):(a==b)=false:=by simp [h]
structure LkM (g:T (List V)) (h:H) (kb db sb stb:Nat) (ls:V) (n:Nat) (os:List ObjD) (base:Int) (D:Dm) (S:St) (im:List V):Prop where
 bk:Has h kb (lkV ls base (.slice stb 0 n (.lit n)) db sb im)
 bs:Has h stb (stC n (stG base os))
 md:Mq h db (mv dV D)
 ms:Mq h sb (mv i64 S)
 kn:kb<h.bX
 dn:db<h.bX
 sn:sb<h.bX
 tn:stb<h.bX
theorem LkM.fix {h h':H} {K:Nat→Prop} {kb db sb stb:Nat} {ls:V} {n:Nat} {os:List ObjD} {base:Int} {D:Dm} {S:St} {im:List V} (a:LkM g h kb db sb stb ls n os base D S im) (f:Fix K h h') (h1:K kb) (h2:K db) (h3:K sb) (h4:K stb):LkM g h' kb db sb stb ls n os base D S im:=by
 have x:=f.bX;have:=a.kn;have:=a.dn;have:=a.sn;have:=a.tn;exact ⟨a.bk.fix f h1,a.bs.fix f h4,a.md.fix f h2,a.ms.fix f h3,by omega,by omega,by omega,by omega⟩
theorem LkM.kept {h h':H} {kb db sb stb:Nat} {ls:V} {n:Nat} {os:List ObjD} {base:Int} {D:Dm} {S:St} {im:List V} (a:LkM g h kb db sb stb ls n os base D S im) (f:cH h h'):LkM g h' kb db sb stb ls n os base D S im:=a.fix f a.kn a.dn a.sn a.tn
theorem LkM.put {h h':H} {kb db sb stb:Nat} {ls:V} {n:Nat} {os:List ObjD} {base:Int} {D:Dm} {S:St} {im im':List V} (a:LkM g h kb db sb stb ls n os base D S im) (f:Fix (·≠kb) h h') (bk:Has h' kb (lkV ls base (.slice stb 0 n (.lit n)) db sb im')) (h2:db≠kb) (h3:sb≠kb) (h4:stb≠kb):LkM g h' kb db sb stb ls n os base D S im':=by
 have x:=f.bX;have:=a.kn;have:=a.dn;have:=a.sn;have:=a.tn;exact ⟨bk,a.bs.fix f h4,a.md.fix f h2,a.ms.fix f h3,by omega,by omega,by omega,by omega⟩
theorem oK {G:GlD}:uC (E g) 174 (dV G) 0=some (i64 G.cl):=by
 simp only [uC,gz,dV,nth,oa,ty2];rfl
structure Lsz (os:List ObjD) (base:Int) (n:Nat):Prop where
 len:os.length=n
 bas:Bas base
 few:n≤20
 st:∀sec i,1≤sec→sec≤2→i<n→stO os sec i≤2^20
def adr (base:Int) (os:List ObjD) (D:Dm) (i:Nat) (s:SymD):Int:=if s.sec≠0∧s.cn=false then base+(stO os s.sec.toNat i:Nat)+s.off else ((al s.name D).getD zGl).cl
theorem AX {h:H} {stb n i sec:Nat} {os:List ObjD} {base:Int} (bs:Has h stb (stC n (stG base os))) (hi:i<n) (h1:1≤sec) (h2:sec≤2):cx (E g) h 2 (.ptr stb (i * 3+sec))=some (i64 (base+(stO os sec i:Nat))):=by
 have s3:=bs.at (E:=E g) ty2 rfl (i * 3+sec);rw [gw (by omega),jM h1 h2] at s3;exact s3
theorem AW {stb o sec:Nat} (h2:sec≤2):cK (E g) 126 (.ptr stb o) (.int .i64 sec)=some (.ptr stb (o+sec)):=by
 have:=ke (g:=g) (b:=stb) (o:=o) (k:=sec) (ik:=.i64) gK rfl ty2 (show sec<3 by omega);simpa using this
theorem yj {h:H} {kb db sb stb n i:Nat} {ls:V} {os:List ObjD} {base:Int} {D:Dm} {S:St} {im:List V} {s:SymD} (m:LkM g h kb db sb stb ls n os base D S im) (z:Lsz os base n) (hi:i<n) (hs:s.sec≠0→s.cn=false→1≤s.sec∧s.sec≤2∧0≤s.off∧s.off≤16384) :
  WF (E g) 89 [.ptr kb 0,.int .i64 i,.agg (iD s)] h fun v h'=>v=i64 (adr base os D i s)∧cH h h':=by
 have hb0:=z.bas.pos;have hb1:=z.bas.most;refine WF.enter fn89 rfl ?_;refine au ?_;refine eI (v:=.agg (iD s)) (by (try simp only [aE,rL,rD,rB,reduceIte])) ?_;intro h1 b1 n1 f1;have b1:Has h1 h.bX [.str s.name,i64 s.sec,i64 s.off,.bool s.cn,.bool s.cm]:=b1;have m1:=m.kept f1;have lk1:=sj (E:=E g) (z:=zGl) (k:=s.name) m1.md eE rfl ty9 rfl gz rfl;refine ax ?_
 by_cases hsec:s.sec=0
 ·have e:adr base os D i s=((al s.name D).getD zGl).cl:=by unfold adr;rw [if_neg (by rintro ⟨q,_⟩;exact q hsec)]
  (try simp only [aE,rL,rD,rB,reduceIte,eV,aH,b1.at ty3 rfl,i64,iK,p7 hsec,un]);refine aw ?_;refine aF (WC.skip ?_);refine az ?_
  ((repeat refine WC.seq ?_);refine WC.draw (plans:=z8) (by kernel_rfl) ?_;simp only [z8,ak])
  (try simp (maxSteps:=2000000) only [aE,rL,rD,rB,reduceIte,af,Chk,fI,kf,aH,m1.bk.at eE rfl,b1.at ty9 rfl,fP,dj,lk1,oK]);refine WC.ret ?_;refine az ?_;exact ⟨by rw [e];rfl,f1⟩
 ·cases hgl:s.cn with
  | true =>
   have e:adr base os D i s=((al s.name D).getD zGl).cl:=by unfold adr;rw [if_neg (by rintro ⟨_,q⟩;rw [hgl] at q;cases q)]
   (try simp only [aE,rL,rD,rB,reduceIte,eV,pN,aH,b1.at ty3 rfl,b1.at ty4 rfl,i64,iK,kz hsec,un,cY,hgl,aV]);refine aw ?_;refine aF (WC.skip ?_);refine az ?_
   ((repeat refine WC.seq ?_);refine WC.draw (plans:=z8) (by kernel_rfl) ?_;simp only [z8,ak])
   (try simp (maxSteps:=2000000) only [aE,rL,rD,rB,reduceIte,af,Chk,fI,kf,aH,m1.bk.at eE rfl,b1.at ty9 rfl,fP,dj,lk1,oK]);refine WC.ret ?_;refine az ?_;exact ⟨by rw [e];rfl,f1⟩
  | false =>
   obtain ⟨q1,q2,q3,q4⟩:=hs hsec hgl;have e:adr base os D i s=base+(stO os s.sec.toNat i:Nat)+s.off:=by unfold adr;rw [if_pos ⟨hsec,hgl⟩]
   obtain ⟨sec,hse⟩:∃sec:Nat,s.sec=(sec:Int):=⟨s.sec.toNat,by omega⟩;have e2:s.sec.toNat=sec:=by omega
   rw [e2] at e;have hst:=z.st sec i (by omega) (by omega) hi;have s3:=AX (g:=g) m1.bs hi (show 1≤sec by omega) (show sec≤2 by omega);have ew:IntKind.i64.wrap (base+(stO os sec i:Nat)+s.off)=adr base os D i s:=by rw [e,cy (by omega) (by omega)]
   (try simp only [aE,rL,rD,rB,reduceIte,eV,pN,aH,b1.at ty3 rfl,b1.at ty4 rfl,i64,iK,kz hsec,un,cY,hgl]);refine aw ?_;refine aG ?_;refine az ?_
   ((repeat refine WC.seq ?_);refine WC.draw (plans:=Ir) (by kernel_rfl) ?_;simp only [Ir,ak])
   (try simp (maxSteps:=2000000) only [aE,rL,rD,rB,reduceIte,af,Chk,kh,eV,kH,aH,m1.bk.at eK rfl,b1.at ty3 rfl,b1.at ty2 rfl,hse,i64,ef eK rfl gK hi,AW (show sec≤2 by omega),s3,ct,ew]);refine WC.ret ?_;refine az ?_;exact ⟨by trivial,f1⟩
def tR (base code:Int) (D:Dm):Nat→List ObjD→Except (Int×Int) Int
 | _,[]=>.ok 0
 | i,o::r=>if o.entry=[] then tR base code D (i+1) r else
  if ((al o.entry D).getD zGl).cl=0∨((al o.entry D).getD zGl).cl<base∨base+code≤((al o.entry D).getD zGl).cl then .error ((i:Int),14) else .ok ((al o.entry D).getD zGl).cl
abbrev imV (base:Int) (bb N:Nat) (code entry:Int) (x y w:V):List V:=[i64 base,.slice bb 0 N (.lit N),i64 code,i64 entry,x,y,w]
theorem GU {n0 kb db sb stb bb N:Nat} {h:H} {ls:V} {L:List (Oc×ObjD)} {base code:Int} {D:Dm} {S:St} (hn0:n0≤h.bX) (a:Obs g h (·<n0) ls L) (fL:∀p∈L,Fits p.2)
  (m:LkM g h kb db sb stb ls L.length (L.map (·.2)) base D S (imV base bb N code 0 .nils .nils .nils)) (z:Lsz (L.map (·.2)) base L.length) (hc:0≤code∧code≤2^30) (k0:n0≤kb) (d0:db≠kb) (s0:sb≠kb) (st0:stb≠kb) (hA:∀p∈D,0≤p.2.cl∧p.2.cl≤2^40) :
  WF (E g) 35 [.ptr kb 0] h fun v h'=>Fix (fun b=>b<h.bX∧b≠kb) h h'∧match tR base code D 0 (L.map (·.2)) with
   | .error f=>v=.agg (cG f)
   | .ok e=>v=.agg (cG (0,0))∧Has h' kb (lkV ls base (.slice stb 0 L.length (.lit L.length)) db sb (imV base bb N code e .nils .nils .nils)):=by
 have hb0:=z.bas.pos;have hb1:=z.bas.most;have lL:=z.few;refine WF.enter fn35 rfl ?_;refine au ?_;refine cz cP ?_;intro h1 b1 n1 f1;have b1:Has h1 h.bX (cG (0,0)):=b1;refine az ?_;have a1:=a.fix f1;have m1:=m.kept f1;have kn:=m.kn;have dn:=m.dn;have sn:=m.sn;have tn:=m.tn;refine ap ?_;(try simp only [aE,rL,rD,rB,reduceIte,lV,aH,m1.bk.at jr rfl,Sl.lenB a1.sl jr rfl]);refine ao ?_
 refine WC.while (fun m fr hh=>∃ts i,fr=⟨ts,60,[],35,none⟩∧Fix (fun b=>b<h1.bX) h1 hh∧m=L.length - i∧i≤L.length∧ts.get 0=some (.ptr kb 0)∧ts.get 2=some (.ptr h.bX 0)∧ts.get 9=some ls∧ts.get 10=some (.int .i64 L.length)∧ts.get 11=some (.int .i64 i)∧tR base code D i ((L.map (·.2)).drop i)=tR base code D 0 (L.map (·.2))) ?_ ⟨_,0,rfl,Fix.refl _ _,rfl,by omega,?_,?_,?_,?_,?_,rfl⟩
 ·rintro m fr hh ⟨ts,i,rfl,ff,rfl,hi,t0,t2,t9,t10,t11,hD⟩
  have xh:=ff.bX;have ah:=a1.fix ff;have mh:=m1.fix ff (by omega) (by omega) (by omega) (by omega);have brh:=b1.fix ff;refine ap ?_;(try simp only [aE,rL,rD,rB,reduceIte,t10,t11]);refine aw ?_
  by_cases hlt:i<L.length
  ·refine aG (WC.skip ?_);refine az ?_;obtain ⟨p,p1,p2⟩:=ah.sl.at (fun _=>rfl) jr rfl iq rfl (by decide) rfl hlt;have p2:=p2 hh fun _ _ _ _ _=>rfl;have hmem:=aP hlt;have obi:=ah.ob _ hmem;rw [da (by simpa using hlt),List.getElem_map] at hD;simp only [tR] at hD;refine ao ?_;refine ap ?_;(try simp only [aE,rL,rD,rB,reduceIte,t9,t11,p1,p2]);refine cz iq ?_;intro h4 b4 n4 f4;refine az ?_;refine cq b4 iq rfl (aI 7) (Oc.one obi) ?_
   intro h5 b5 n5 f5;have b5:Has h5 hh.bX [.str L[i].2.name,L[i].1.code,L[i].1.data,L[i].1.ce,L[i].1.ci,L[i].1.cf,.str L[i].2.entry]:=b5;have F5:cH hh h5:=⟨by omega,fun b hb=>by rw [f5.ca b (by omega),f4.ca b hb]⟩;have m5:=mh.kept F5;have br5:=brh.fix F5;have FT:Fix (fun b=>b<h.bX) h h5:=⟨by omega,fun b hb=>by rw [F5.ca b (by omega),ff.ca b (by omega),f1.ca b hb]⟩;refine ax ?_;have l5:cx (E g) h5 9 (.ptr hh.bX 6)=some (.str L[i].2.entry):=b5.at ty9 rfl 6
   by_cases he:L[i].2.entry=[]
   ·rw [if_pos he] at hD;(try simp only [aE,rL,rD,rB,reduceIte,oL,aH,l5,gH,beqL_t he]);refine aw ?_;refine aG (WC.exit ?_);(try simp only [aE,rL,rD,rB,reduceIte,nb1]);refine ap ?_;(try simp only [aE,rL,rD,rB,reduceIte,t11,ct])
    refine ⟨_,?_,_,i+1,rfl,⟨by omega,fun b hb=>by rw [F5.ca b (by omega),ff.ca b hb]⟩,rfl,by omega,?_⟩
    ·omega
    (try simp only [aE,rL,rD,rB,reduceIte,t0,t2,t9,t10]);refine ⟨aD,aD,aD,aD,?_,hD⟩;rw [cy (by omega) (by omega)];rfl
   ·rw [if_neg he] at hD;have lk5:=sj (E:=E g) (z:=zGl) (k:=L[i].2.entry) m5.md eE rfl ty9 rfl gz rfl
    have hadd:0≤((al L[i].2.entry D).getD zGl).cl∧((al L[i].2.entry D).getD zGl).cl≤2^40:=by
     cases hal:al L[i].2.entry D with
     | none=>exact ⟨Int.le_refl _,by decide⟩
     | some G=>exact hA _ (AC hal)
    generalize hG:(al L[i].2.entry D).getD zGl=G at lk5 hD hadd;(try simp only [aE,rL,rD,rB,reduceIte,oL,aH,l5,gH,beqL_f he]);refine aw ?_;refine aF (WC.skip ?_);refine az ?_
    ((repeat refine WC.seq ?_);refine WC.draw (plans:=II) (by kernel_rfl) ?_;simp only [II,ak])
    (try simp (maxSteps:=2000000) only [aE,rL,rD,rB,reduceIte,af,Chk,t0,fI,oL,aH,m5.bk.at eE rfl,l5,fP,dj,lk5,oK,i64]);have ecw:IntKind.i64.wrap (base+code)=base+code:=cy (by omega) (by omega)
    ((repeat refine WC.seq ?_);refine WC.draw (plans:=IG) (by kernel_rfl) ?_;simp only [IG,ak])
    by_cases c1:G.cl=0
    ·rw [if_pos (.inl c1)] at hD;(try simp (maxSteps:=2000000) only [aE,rL,rD,rB,reduceIte,af,Chk,t0,nf c1,un,i64]);refine aG ?_;refine ay ?_;refine (lC).mono fun v hb ⟨eb,fb⟩=>?_;subst eb;have xb:=fb.bX;(try simp only [aE,rL,rD,rB,reduceIte,t2]);refine cq (br5.fix fb) cP rfl (aI 2) (cN _) ?_;intro hc bc nc fc;have lc:cx (E g) hc 35 (.ptr h.bX 0)=some (.agg (cG ((i:Int),14))):=bc.agg cP rfl (aI 2);refine az ?_
     refine WC.ret ?_;(try simp only [aE,rL,rD,rB,reduceIte,t2,lc]);rw [←hD];exact ⟨⟨by omega,fun b hb=>by rw [fc.ca b (by omega),fb.ca b (by omega),FT.ca b hb.1]⟩,by trivial⟩
    ·by_cases c2:G.cl<base
     ·rw [if_pos (.inr (.inl c2))] at hD;(try simp (maxSteps:=2000000) only [aE,rL,rD,rB,reduceIte,af,Chk,t0,li c1,un,eJ,aH,m5.bk.at ty2 rfl,i64,aJ c2]);refine aG ?_;refine ay ?_;refine (lC).mono fun v hb ⟨eb,fb⟩=>?_;subst eb;have xb:=fb.bX;(try simp only [aE,rL,rD,rB,reduceIte,t2]);refine cq (br5.fix fb) cP rfl (aI 2) (cN _) ?_;intro hc bc nc fc;have lc:cx (E g) hc 35 (.ptr h.bX 0)=some (.agg (cG ((i:Int),14))):=bc.agg cP rfl (aI 2)
      refine az ?_;refine WC.ret ?_;(try simp only [aE,rL,rD,rB,reduceIte,t2,lc]);rw [←hD];exact ⟨⟨by omega,fun b hb=>by rw [fc.ca b (by omega),fb.ca b (by omega),FT.ca b hb.1]⟩,by trivial⟩
     ·by_cases c3:base+code≤G.cl
      ·rw [if_pos (.inr (.inr c3))] at hD;(try simp (maxSteps:=2000000) only [aE,rL,rD,rB,reduceIte,af,Chk,t0,li c1,un,eJ,dF,ed,aH,m5.bk.at ty2 rfl,i64,aK c2,ct,ecw,aJ c3]);refine aG ?_;refine ay ?_;refine (lC).mono fun v hb ⟨eb,fb⟩=>?_;subst eb;have xb:=fb.bX;(try simp only [aE,rL,rD,rB,reduceIte,t2]);refine cq (br5.fix fb) cP rfl (aI 2) (cN _) ?_;intro hc bc nc fc;have lc:cx (E g) hc 35 (.ptr h.bX 0)=some (.agg (cG ((i:Int),14))):=bc.agg cP rfl (aI 2)
       refine az ?_;refine WC.ret ?_;(try simp only [aE,rL,rD,rB,reduceIte,t2,lc]);rw [←hD];exact ⟨⟨by omega,fun b hb=>by rw [fc.ca b (by omega),fb.ca b (by omega),FT.ca b hb.1]⟩,by trivial⟩
      ·rw [if_neg (by rintro (q | q | q); · exact c1 q
                      ·exact c2 q
                      ·exact c3 q)] at hD
       (try simp (maxSteps:=2000000) only [aE,rL,rD,rB,reduceIte,af,Chk,t0,li c1,un,eJ,dF,ed,aH,m5.bk.at ty2 rfl,i64,aK c2,ct,ecw,aK c3]);refine aF (WC.skip ?_);refine ax ?_;(try simp only [aE,rL,rD,rB,reduceIte,t0,dF,eh,aH]);refine cq m5.bk ty2 rfl (show 5+3+1≤12 by decide) rfl ?_;intro h6 b6 n6 f6;have b6:Has h6 kb (lkV ls base (.slice stb 0 L.length (.lit L.length)) db sb (imV base bb N code G.cl .nils .nils .nils)):=b6
       have br6:=br5.fix f6;refine az ?_;refine WC.exit ?_;(try simp only [aE,rL,rD,rB,reduceIte,nb0]);refine ap ?_;(try simp only [aE,rL,rD,rB,reduceIte,iR,t2]);refine cq br6 cP rfl (aI 2) (cN _) ?_;intro h9 b9 n9 f9;have l9:cx (E g) h9 35 (.ptr h.bX 0)=some (.agg (cG (0,0))):=b9.agg cP rfl (aI 2);refine az ?_;refine WC.ret ?_;(try simp only [aE,rL,rD,rB,reduceIte,t2,l9]);rw [←hD];exact ⟨⟨by omega,fun b hb=>by rw [f9.ca b (by omega),f6.ca b hb.2,FT.ca b hb.1]⟩,by trivial,b6.fix f9⟩
  ·refine aF (WC.exit ?_);have:i=L.length:=by omega
   subst this
   have hD0:tR base code D 0 (L.map (·.2))=.ok 0:=by
    rw [←hD,bK (by simp)];rfl
   rw [hD0];refine ax ?_;(try simp only [aE,rL,rD,rB,reduceIte,iR,t2]);refine cq brh cP rfl (aI 2) (cN _) ?_;intro h9 b9 n9 f9;have l9:cx (E g) h9 35 (.ptr h.bX 0)=some (.agg (cG (0,0))):=b9.agg cP rfl (aI 2);refine az ?_;refine WC.ret ?_;(try simp only [aE,rL,rD,rB,reduceIte,t2,l9]);exact ⟨⟨by omega,fun b hb=>by rw [f9.ca b (by omega),ff.ca b (by omega),f1.ca b hb.1]⟩,by trivial,mh.bk.fix f9⟩
 all_goals (try simp only [aE,rL,rD,rB,reduceIte])
 all_goals (first|done|rfl|trivial|simp)
end Go.Proofs.OP
