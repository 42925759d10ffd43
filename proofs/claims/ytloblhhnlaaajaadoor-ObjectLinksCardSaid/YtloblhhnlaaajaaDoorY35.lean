/- Walks: (*linker).layout. -/
import Derived.Test.YtloblhhnlaaajaaDoorY34
set_option maxHeartbeats 16000000
set_option maxRecDepth 100000
set_option linter.unusedVariables false
set_option linter.unusedSimpArgs false
set_option linter.defProp false
namespace Go.Proofs.OP
open Go Go.Ev
open Go.Proofs
open Nat renaming reduceLT → rL, reduceEqDiff → rD, reduceBEq → rB
variable {g : T (List V)}
theorem ke {t e b o n k:Nat} {i ei:TI} {ik:IntKind} (ht:(E g).tys.get t=some i) (hd:i.desc=.array n e) (he:(E g).tys.get e=some ei) (hk:k<n):cK (E g) t (.ptr b o) (.int ik k)=some (.ptr b (o+k * ei.size)):=by
 have h1:Nat.blt k n=true:=gF hk;simp only [cK,ht,fW,hd,h1,cond_true,cL he,bo]
theorem obs_at {h:H} {K:Nat→Prop} {ls:V} {L:List (Oc×ObjD)} (a:Obs g h K ls L) (w:Whole ls L.length) {i:Nat} (hi:i<L.length) :
  ∃lb,(∃c,ls=.slice lb 0 L.length c)∧K lb∧At h lb (i * 7) (L[i].1.cells L[i].2):=by
 obtain ⟨b,k,e,_⟩:=BN w a.sl (by omega);have hs:=a.sl;rw [e] at hs;have hA:=hs.block (c:=0) (by omega);have hlen:(L.flatMap fun p:Oc×ObjD=>p.1.cells p.2).length=L.length * 7:=lP (f:=fun p:Oc×ObjD=>p.1.cells p.2) (sz:=7) (fun _=>rfl) L;have hp:=hA.part (p:=i * 7) (q:=7) (by rw [hlen];omega);rw [qK (f:=fun p:Oc×ObjD=>p.1.cells p.2) (sz:=7) (fun _=>rfl) hi,aH] at hp;exact ⟨b,⟨k,e⟩,a.ins _ _ _ _ e,hp⟩
abbrev im0 (code:Int):List V:=[i64 0,.nils,i64 code,i64 0,.nils,.nils,.nils]
def iY:Int→List (List UInt8)→St→St
 | _,[],S=>S
 | a,k::r,S=>iY (a+8) r (ia k a S)
def pg (os:List ObjD):Nat→List ObjD→List UInt8→List UInt8
 | _,[],bs=>bs
 | i,o::r,bs=>pg os (i+1) r (er (er bs (stO os 1 i) o.code) (stO os 2 i) o.data)
def lp (base:Int) (os:List ObjD) (G:GlD):GlD:={G with cl:=base+(stO os G.sym.sec.toNat G.obj:Nat)+G.sym.off}
def fM (os:List ObjD):Nat:=upN (ko os)
def eQ (os:List ObjD) (S:St):Nat:=fM os+8 * S.length
def GoodG (os:List ObjD) (G:GlD):Prop:=G.obj<os.length∧1≤G.sym.sec∧G.sym.sec≤2∧0≤G.sym.off∧G.sym.off≤16384
theorem zl {h:H} {m:Nat}:WF (E g) 88 [.map m] h fun v h'=>v=.func 113 [] [.ptr h.bX 0]∧Has h' h.bX [.map m]∧h'.bX=h.bX+1∧cH h h':=by
 refine WF.enter fn88 rfl ?_;refine au ?_;refine eI (v:=.map m) (by (try simp only [aE,rL,rD,rB,reduceIte])) ?_;intro h1 b1 n1 f1;refine ax ?_;(try simp only [aE,rL,rD,rB,reduceIte,pz]);refine WC.ret ?_;refine az ?_;exact ⟨by trivial,b1,n1,f1⟩
theorem GX {h:H} {m:Nat}:WF (E g) 92 [.map m] h fun v h'=>v=.func 115 [] [.ptr h.bX 0]∧Has h' h.bX [.map m]∧h'.bX=h.bX+1∧cH h h':=by
 refine WF.enter fn92 rfl ?_;refine au ?_;refine eI (v:=.map m) (by (try simp only [aE,rL,rD,rB,reduceIte])) ?_;intro h1 b1 n1 f1;refine ax ?_;(try simp only [aE,rL,rD,rB,reduceIte,pz]);refine WC.ret ?_;refine az ?_;exact ⟨by trivial,b1,n1,f1⟩
theorem ua {α:Type} {f:α→V} {L:List (List UInt8×α)} {h:H} {m b gk:Nat} (hg:gk=113∨gk=115) (hb:Has h b [.map m]) (hm:Mq h m (mv f L)) (hnd:(L.map (·.1)).Nodup) (hlen:L.length≤2^40) (hkl:∀p∈L,p.1.length≤2^40) :
  WF (E g) 87 [.func gk [] [.ptr b 0]] h fun v h'=>Buf (E g) h' 9 1 v L.length ((dK (L.map (·.1))).map V.str)∧In (fun b=>h.bX≤b∧b<h'.bX) v∧cH h h':=by
 have hsk:A9 87 (E g).sk [gk]=some 9:=by
  rcases hg with rfl|rfl
  ·unfold E iy;rfl
  ·unfold E iy;rfl
 refine wf_keys (e:=9) E_87 (by unfold E iy;rfl) (by unfold E iy;exact T.get_lf 87) (by unfold E iy;rfl) hsk ty9 rfl hb hm (by rw [EO];exact hnd) (by rw [uo];omega) (fun p hp=>?_) (fun v h' q1 q2 q3=>?_)
 ·obtain ⟨q,hq,rfl⟩:=bP.1 hp;have:=hkl q hq;show q.1.length≤_;omega
 ·rw [EO,uo] at q1;exact ⟨q1,q2,q3⟩
theorem jV {α:Type} (L:List (List UInt8×α)):(dK (L.map (·.1))).length=L.length:=by rw [tw,bO]
theorem zQ {h:H} {v:V} {n:Nat} {K:List (List UInt8)} (b:Buf (E g) h 9 1 v n (K.map V.str)) (hn:K.length=n):Ss g h v K:=by
 subst hn;exact b.sl
def nI {α:Type} (f:α→α) (seen:List Nat) (L:List (List UInt8×α)):List (List UInt8×α):=L.mapIdx fun j p=>if seen.contains j then (p.1,f p.2) else p
theorem qk {α:Type} (f:α→α) (seen:List Nat) (L:List (List UInt8×α)):(nI f seen L).length=L.length:=by simp [nI]
theorem FM {α:Type} (f:α→α) (seen:List Nat) (L:List (List UInt8×α)):(nI f seen L).map (·.1)=L.map (·.1):=by
 apply List.ext_getElem?;intro j;simp only [nI,List.getElem?_map,List.getElem?_mapIdx]
 cases L[j]? with
 | none=>rfl
 | some p=>simp only [bo];split<;>rfl
theorem HF {α:Type} (f:α→α) (L:List (List UInt8×α)):nI f [] L=L:=by
 apply List.ext_getElem?;intro j;simp only [nI,List.getElem?_mapIdx]
 cases L[j]? with
 | none=>rfl
 | some p=>rfl
theorem HG {α:Type} (f:α→α) {seen:List Nat} {L:List (List UInt8×α)} (h:∀j,j<L.length→j∈seen):nI f seen L=L.map fun p=>(p.1,f p.2):=by
 apply List.ext_getElem?;intro j;simp only [nI,List.getElem?_mapIdx,List.getElem?_map]
 rcases Nat.lt_or_ge j L.length with hj|hj
 ·rw [List.getElem?_eq_getElem hj];simp only [bo];rw [if_pos (by simpa using h j hj)]
 ·rw [List.getElem?_eq_none hj];rfl
theorem DW {α:Type} (f:α→α) {seen:List Nat} {L:List (List UInt8×α)} {j:Nat} (hj:j<L.length) (hs:j∉seen):(nI f seen L)[j]'(by rw [qk];exact hj)=L[j]:=by
 simp only [nI,List.getElem_mapIdx];rw [if_neg (by simpa using hs)]
theorem Jc {α:Type} {x:α}:∀{L:List (List UInt8×α)} {j:Nat} (hj:j<L.length),(L.map (·.1)).Nodup→ia L[j].1 x L=L.set j (L[j].1,x)
 | [],j,hj,_=>by simp at hj
 | p::r,0,_,_=>by simp [ia]
 | p::r,j+1,hj,hn=>by
  have hj':j<r.length:=by simpa using hj
  simp only [bI,List.nodup_cons] at hn;have hne:¬p.1=r[j].1:=fun e=>hn.1 (by rw [e];exact bP.2 ⟨r[j],aP hj',rfl⟩);simp only [List.getElem_cons_succ,ia,if_neg hne,List.set_cons_succ,Jc hj' hn.2]
theorem FK {α:Type} (f:α→α) {seen:List Nat} {L:List (List UInt8×α)} {j:Nat} (hj:j<L.length) (hn:(L.map (·.1)).Nodup) (hs:j∉seen):ia L[j].1 (f L[j].2) (nI f seen L)=nI f (seen++[j]) L:=by
 have hj':j<(nI f seen L).length:=by rw [qk];exact hj
 have e:=DW f hj hs;have h1:=Jc (x:=f L[j].2) hj' (by rw [FM];exact hn);rw [e] at h1;rw [h1];apply List.ext_getElem?;intro k;rw [List.getElem?_set]
 by_cases hk:j=k
 ·subst hk;rw [if_pos rfl,if_pos hj'];simp only [nI,List.getElem?_mapIdx,List.getElem?_eq_getElem hj,bo];rw [if_pos (by simp)]
 ·rw [if_neg hk];simp only [nI,List.getElem?_mapIdx]
  have:(seen++[j]).contains k=seen.contains k:=by
   rw [Bool.eq_iff_iff];simp only [List.contains_iff_mem,bN,aN]
   constructor
   ·rintro (q|q)
    ·exact q
    ·exact absurd q.symm hk
   ·exact .inl
  rw [this]
def CK (n:Nat) (seen:List Nat):Nat:=((List.range n).filter fun j => !seen.contains j).length
theorem filter_lt {l seen:List Nat} {j:Nat} (h:j∈l) (hs:j∉seen):(l.filter fun k => !(seen++[j]).contains k).length<(l.filter fun k => !seen.contains k).length:=by
 have key:∀l:List Nat,(l.filter fun k => !(seen++[j]).contains k).length≤(l.filter fun k => !seen.contains k).length:=by
  intro l
  induction l with
  | nil=>simp
  | cons x r ih =>
   simp only [List.filter_cons]
   by_cases q:seen.contains x=true
   ·have q2:(seen++[j]).contains x=true:=by simp at q ⊢;exact .inl q
    simp only [q,q2,aV,Bool.false_eq_true,if_false];exact ih
   ·simp only [q,bE,if_true]
    split
    ·simp only [aO];omega
    ·simp only [aO];omega
 induction l with
 | nil=>cases h
 | cons x r ih =>
  simp only [List.filter_cons]
  by_cases e:x=j
  ·subst e;have q2:(seen++[x]).contains x=true:=by simp
   have q:seen.contains x=false:=by simpa using hs
   simp only [q,q2,aV,bE,Bool.false_eq_true,if_false,if_true,aO];have:=key r;omega
  ·have hr:j∈r:=by
    rcases aW.1 h with q|q
    ·exact absurd q.symm e
    ·exact q
   have:=ih hr
   by_cases q:seen.contains x=true
   ·have q2:(seen++[j]).contains x=true:=by simp at q ⊢;exact .inl q
    simp only [q,q2,aV,Bool.false_eq_true,if_false];exact this
   ·have q2:(seen++[j]).contains x=false:=by
     simp at q ⊢;exact ⟨q,e⟩
    simp only [q,q2,bE,if_true,aO];omega
theorem FN {n j:Nat} {seen:List Nat} (h:j<n) (hs:j∉seen):CK n (seen++[j])<CK n seen:=filter_lt (List.mem_range.2 h) hs
theorem oT {t e b n l:Nat} {i ei:TI} {k:IntKind} (ht:(E g).tys.get t=some i) (hd:i.desc=.slice e) (he:(E g).tys.get e=some ei) (hs:ei.size=1) (hl:l≤n) :
  ∃o' c',eL (E g) t (.slice b 0 n (.lit n)) (some (.int k l)) none none=some (.slice b o' (n - l) c')∧(l<n→o'=l):=by
 rcases Nat.lt_or_ge l n with q|q
 ·obtain ⟨c',h1⟩:=sB (E:=E g) (b:=b) (o:=0) (k:=k) ht hd (cL he) (.inl rfl) q;rw [hs,bL,aH] at h1;exact ⟨_,c',h1,fun _=>rfl⟩
 ·obtain rfl:l=n:=by omega
  have h1:Nat.ble l l=true:=cQ (aI _);refine ⟨0,.lit (l - l),?_,fun h=>absurd h (by omega)⟩;simp only [eL,ht,hd,cL he,iM,gB,fW,bQ,h1,cond_true,j6];simp
theorem nU {h:H} {bb l n o':Nat} {c':Cp} {bs xs:List UInt8} {s:V} {Q:V→H→Prop} (a:At h bb 0 (bs.map u8)) (hl:l+xs.length≤n) (hn:bs.length=n) (ho:l<n→o'=l) (hs:Bs g h s xs)
  (k:∀v h',At h' bb 0 ((er bs l xs).map u8)→h'.bX=h.bX→Fix (·≠bb) h h'→Q v h'):ej (r1 (qO (E g) h 27 (.slice bb o' (n - l) c') s)) Q:=by
 rcases Nat.eq_zero_or_pos xs.length with hx|hx
 ·have hxs:xs=[]:=List.eq_nil_of_length_eq_zero hx;subst hxs;have hl0:iu s=some 0:=by simpa using Sl.len hs
  have hc:=Sl.cells hs;simp only [bD,List.map_nil] at hc;have hln:iu (.slice bb o' (n - l) c')=some (n - l):=rfl;simp only [qO,cM,ty5,hln,hl0,Nat.min_def,Nat.zero_le,if_true,hc,gZ,bo,jz];refine k _ _ ?_ rfl (Fix.refl _ _);simpa [er] using a
 ·have ho:=ho (by omega);subst ho;have:(V.slice bb o' (n - o') c')=.slice bb (0+o') (n - o') c':=by rw [aH]
  rw [this];refine Ge a cM rfl ty5 rfl (Sl.len hs) (by omega) (Sl.cells hs) (by simp) (by simp;omega) De ?_;intro h' a' n' f';refine k _ _ ?_ n' f';rw [pH];exact a'
theorem Dp {sec i:Nat} {os:List ObjD} {a:Nat}:iG sec os a=iG sec (os.drop i) (iG sec (os.take i) a):=by
 unfold iG;rw [←List.foldl_append,List.take_append_drop]
theorem vF {sec:Nat}:∀{os:List ObjD} {a:Nat},a≤iG sec os a
 | [],a=>aI _
 | o::r,a=>by
  have ih:=vF (sec:=sec) (os:=r) (a:=upN a+szS sec o);have h2:=iS a;have e:iG sec (o::r) a=iG sec r (upN a+szS sec o):=rfl;rw [e];omega
theorem st_end {sec i:Nat} {os:List ObjD} {a:Nat} (hi:i<os.length):stA sec os a i+szS sec os[i]≤iG sec os a:=by
 rw [Dp (i:=i+1),uv hi];exact vF
theorem mK {i:Nat} {os:List ObjD} (hi:i<os.length):stO os 1 i+os[i].code.length≤fM os:=by
 have h1:=st_end (sec:=1) (a:=0) hi;have h2:dJ os≤ko os:=vF;have h3:=iS (ko os);have e:stO os 1 i=stA 1 os 0 i:=rfl;have e2:iG 1 os 0=dJ os:=rfl;have e3:szS 1 os[i]=os[i].code.length:=rfl;unfold fM;omega
theorem mJ {i:Nat} {os:List ObjD} (hi:i<os.length):stO os 2 i+os[i].data.length≤fM os:=by
 have h1:=st_end (sec:=2) (a:=dJ os) hi;have h3:=iS (ko os);have e:stO os 2 i=stA 2 os (dJ os) i:=rfl;have e2:iG 2 os (dJ os)=ko os:=rfl;have e3:szS 2 os[i]=os[i].data.length:=rfl;unfold fM;omega
theorem zP {sec i:Nat} {os:List ObjD} (h1:1≤sec) (h2:sec≤2) (hi:i<os.length):stO os sec i≤fM os:=by
 obtain rfl|rfl:sec=1∨sec=2:=by omega
 ·have:=mK hi;omega
 ·have:=mJ hi;omega
theorem GW {n0 kb db sb:Nat} {h:H} {ls:V} {L:List (Oc×ObjD)} {base:Int} {D:Dm} {S:St} (hb:Bas base) (hn0:n0≤h.bX) (a:Obs g h (·<n0) ls L) (w:Whole ls L.length) (lL:L.length≤20) (hM:∀o∈L.map (·.2),o.code.length≤16384∧o.data.length≤16384)
  (bk:Has h kb (lkV ls base .nils db sb (im0 0))) (md:Mq h db (mv dV D)) (ms:Mq h sb (mv i64 S)) (hkb:kb<h.bX) (hdb:db<h.bX) (hsb:sb<h.bX) (kd:kb≠db) (ks:kb≠sb) (ds:db≠sb) (k0:n0≤kb) (d0:n0≤db) (s0:n0≤sb)
  (gD:∀p∈D,GoodG (L.map (·.2)) p.2) (nD:(D.map (·.1)).Nodup) (lD:D.length≤2^20) (nS:(S.map (·.1)).Nodup) (lS:S.length≤2^20) (kS:∀p∈S,p.1.length≤2^20) :
  WF (E g) 34 [.ptr kb 0] h fun v h'=>Fix (fun b=>b<h.bX∧b≠kb∧b≠db∧b≠sb) h h' ∧
   if 131072<eQ (L.map (·.2)) S then v=.agg (cG (0,18)) else v=.agg (cG (0,0))∧∃stb bb,h.bX≤stb∧stb<h'.bX∧h.bX≤bb∧bb<h'.bX∧bb≠stb ∧
    Has h' kb (lkV ls base (.slice stb 0 L.length (.lit L.length)) db sb [i64 base,.slice bb 0 (eQ (L.map (·.2)) S) (.lit (eQ (L.map (·.2)) S)),i64 (upN (dJ (L.map (·.2))):Nat),i64 0,.nils,.nils,.nils]) ∧
    Has h' stb (stC L.length (stG base (L.map (·.2))))∧At h' bb 0 ((pg (L.map (·.2)) 0 (L.map (·.2)) (List.replicate (eQ (L.map (·.2)) S) 0)).map u8) ∧
    Mq h' db (mv dV (D.map fun p=>(p.1,lp base (L.map (·.2)) p.2)))∧Mq h' sb (mv i64 (iY (base+(fM (L.map (·.2)):Nat)) (dK (S.map (·.1))) S)):=by
 have hb1:=hb.most;have hb0:=hb.pos
 have hM1:∀sec,1≤sec→sec≤2→∀o∈L.map (·.2),szS sec o≤16384:=fun sec h1 h2 o ho=>by
  obtain ⟨q1,q2⟩:=hM o ho;unfold szS
  split
  ·exact q1
  ·exact q2
 have hlo:(L.map (·.2)).length=L.length:=by simp
 generalize hos:L.map (·.2)=os at *
 have hend:∀sec i a,1≤sec→sec≤2→a≤iG sec (os.take i) a∧iG sec (os.take i) a≤a+20 * 16400:=fun sec i a h1 h2=>by
  have:=rt (sec:=sec) (M:=16384) (os:=os.take i) (a:=a) fun o ho=>hM1 sec h1 h2 o (List.mem_of_mem_take ho);have hl:(os.take i).length≤20:=by rw [List.length_take];omega
  have hl2:(os.take i).length * (16384+16)≤20 * 16400:=Nat.mul_le_mul_right _ hl;omega
 have hend1:dJ os≤20 * 16400:=by
  have:=hend 1 os.length 0 (by omega) (by omega);rw [bv] at this;unfold dJ;omega
 have hend2:ko os≤40 * 16400:=by
  have:=hend 2 os.length (dJ os) (by omega) (by omega);rw [bv] at this;unfold ko;omega
 refine WF.enter fn34 rfl ?_;refine au ?_;refine cz cP ?_;intro h1 b1 n1 f1;have b1:Has h1 h.bX (cG (0,0)):=b1;refine az ?_;have a1:=a.fix f1;have bk1:=bk.fix f1 hkb;refine ap ?_;(try simp only [aE,rL,rD,rB,reduceIte,eJ,aH,bk1.at ty2 rfl,i64]);refine ap ?_;(try simp only [aE,rL,rD,rB,reduceIte,lV,kh,aH,bk1.at jr rfl,Sl.lenB a1.sl jr rfl]);refine iQ (s:=3) (v:=.int .i64 0) (n:=L.length) eK rfl gK rfl rfl (by decide) (show 24 * L.length≤281474976710656 by omega) (by omega) ?_
 intro h2 b2 n2 f2;rw [AZ,←D5 (base:=base) (os:=os)] at b2;have bk2:=bk1.fix f2;(try simp only [aE,rL,rD,rB,reduceIte,kh,aH]);refine cq bk2 eK rfl (show 2+1≤12 by decide) rfl ?_;intro h3 bk3 n3 f3;have bk3:Has h3 kb (lkV ls base (.slice h1.bX 0 L.length (.lit L.length)) db sb (im0 0)):=bk3;have b3:=b2.fix f3;have a3:=(a1.fix f2).fix f3;have F3:Fix (fun b=>b<h1.bX∧b≠kb) h1 h3:=⟨by omega,fun b hb=>by rw [f3.ca b hb.2,f2.ca b hb.1]⟩
 generalize hstb:h1.bX=stb at *;have hend0:∀sec,1≤sec→sec≤2→(if sec=1 then 0 else dJ os)≤20 * 16400:=fun sec _ _=>by split<;>omega
 refine ay ?_;refine ao ?_
 refine WC.while (fun m fr hh=>∃ts sec,fr=⟨ts,210,[],34,none⟩∧Fix (fun b=>b<h3.bX∧b≠kb∧b≠stb) h3 hh∧m=3 - sec∧1≤sec∧sec≤3∧ts.get 0=some (.ptr kb 0)∧ts.get 2=some (.ptr h.bX 0)∧ts.get 3=some (.int .i64 (base+((if sec=1 then 0 else if sec=2 then dJ os else ko os:Nat):Int)))∧ts.get 4=some (.int .i64 (sec:Nat)) ∧
  Has hh kb (lkV ls base (.slice stb 0 L.length (.lit L.length)) db sb (im0 (if sec=1 then 0 else (upN (dJ os):Nat))))∧Has hh stb (stC L.length (stF base os sec 0))) ?_ ⟨_,1,rfl,Fix.refl _ _,rfl,by omega,by omega,?_,?_,?_,?_,bk3,b3⟩
 ·rintro m fr hh ⟨ts,sec,rfl,ff,rfl,sec1,sec3,t0,t2,t3,t4,bkh,bsh⟩
  have xh:=ff.bX;have ah:=a3.fix ff;refine ap ?_;(try simp only [aE,rL,rD,rB,reduceIte,t4]);refine aw ?_
  by_cases hlt:sec≤2
  ·refine aG (WC.skip ?_);refine az ?_
   have e3:(if sec=1 then 0 else if sec=2 then dJ os else ko os:Nat)=(if sec=1 then 0 else dJ os):=by
    by_cases q:sec=1
    ·rw [if_pos q,if_pos q]
    ·rw [if_neg q,if_neg q,if_pos (by omega)]
   rw [e3] at t3;have h0:=hend0 sec sec1 hlt;generalize ha0:(if sec=1 then 0 else dJ os:Nat)=a0 at t3 h0;refine ao ?_;refine ap ?_;(try simp only [aE,rL,rD,rB,reduceIte,t0,lV,aH,bkh.at jr rfl,Sl.lenB ah.sl jr rfl]);refine ao ?_
   refine WC.while (fun m fr hj=>∃ts i,fr=⟨ts,210,[],34,none⟩∧Fix (fun b=>b<hh.bX∧b≠stb) hh hj∧m=L.length - i∧i≤L.length∧ts.get 0=some (.ptr kb 0)∧ts.get 2=some (.ptr h.bX 0)∧ts.get 3=some (.int .i64 (base+(iG sec (os.take i) a0:Nat)))∧ts.get 4=some (.int .i64 (sec:Nat))∧ts.get 33=some (.int .i64 L.length)∧ts.get 34=some (.int .i64 i)∧Has hj stb (stC L.length (stF base os sec i))) ?_ ⟨_,0,rfl,Fix.refl _ _,rfl,by omega,?_,?_,?_,?_,?_,?_,bsh⟩
   ·rintro m fr hj ⟨ts,i,rfl,fj,rfl,hi,t0,t2,t3,t4,t33,t34,bsj⟩
    have xj:=fj.bX;have aj:=ah.fix fj;have bkj:=bkh.fix fj ⟨by omega,by omega⟩;have hE:=hend sec i a0 sec1 hlt;refine ap ?_;(try simp only [aE,rL,rD,rB,reduceIte,t33,t34]);refine aw ?_
    by_cases hli:i<L.length
    ·refine aG (WC.skip ?_);refine az ?_;have hup:=iS (iG sec (os.take i) a0);have hst:stO os sec i=upN (iG sec (os.take i) a0):=by unfold stO stA;rw [ha0]
     obtain ⟨lb,⟨c,els⟩,hlb,aL⟩:=obs_at aj w hli;have ob:=aj.ob _ (aP hli);have hoi:os[i]'(by omega)=L[i].2:=by subst hos;simp
     have hsz:=hM1 sec sec1 hlt _ (show L[i].2∈os by rw [←hoi];exact aP _);refine ao ?_;refine ap ?_;(try simp only [aE,rL,rD,rB,reduceIte,t34]);refine ap ?_;(try simp only [aE,rL,rD,rB,reduceIte,t3]);refine (HH hb (show iG sec (os.take i) a0<2^40 by omega)).mono fun v h4 ⟨e4,f4⟩=>?_;subst e4 f4;refine ax ?_;(try simp only [aE,rL,rD,rB,reduceIte,t0,t4,kh,aH,bkj.at eK rfl,ef eK rfl gK hli,ke gK rfl ty2 (show sec<3 by omega),bL])
     have bsj':=bsj;refine cq bsj' ty2 rfl (show i * 3+sec+1≤_ by rw [kA];omega) rfl ?_;intro h5 b5 n5 f5;have b5:Has h5 stb (o5 (stC L.length (stF base os sec i)) (i * 3+sec) [i64 (base+(stO os sec i:Nat))]):=by rw [hst];exact b5
     rw [A3 (by omega),AY sec1 hlt] at b5;have bk5:=bkj.fix f5;have a5:=aj.fix f5;refine ax ?_;(try simp only [aE,rL,rD,rB,reduceIte,t0,t4,lV,aH,bk5.at jr rfl]);rw [els];(try simp only [aE,rL,rD,rB,reduceIte,t4,ef jr rfl iq hli,aH]);refine (FW (aL.fix f5) (ob.fix f5)).mono fun v h6 ⟨e6,f6⟩=>?_;subst e6 f6;rw [szS_len sec1 hlt];(try simp only [aE,rL,rD,rB,reduceIte,i64,ct]);refine ap ?_;(try simp only [aE,rL,rD,rB,reduceIte,t34,ct])
     refine ⟨_,?_,_,i+1,rfl,⟨by omega,fun b hb=>by rw [f5.ca b hb.2,fj.ca b hb]⟩,rfl,by omega,?_⟩
     ·omega
     (try simp only [aE,rL,rD,rB,reduceIte,t0,t2,t4,t33])
     refine ⟨aD,aD,?_,aD,aD,?_,b5⟩
     ·rw [uv (by omega),hoi,cy (by omega) (by omega)]
      congr 2
      omega
     ·rw [cy (by omega) (by omega)];rfl
    ·refine aF (WC.exit ?_);have:i=L.length:=by omega
     subst this;have hT:os.take L.length=os:=by rw [←hlo,bv]
     rw [hT] at t3 hE;have bsn:Has hj stb (stC L.length (stF base os (sec+1) 0)):=by rw [←yO fun m hm=>D4 hm];exact bsj
     refine ax ?_;(try simp only [aE,rL,rD,rB,reduceIte,t4]);refine aw ?_
     by_cases h1:sec=1
     ·subst h1;simp only [if_true] at ha0;subst ha0;have e1:iG 1 os 0=dJ os:=rfl;rw [e1] at t3;have hup:=iS (dJ os);refine aG ?_;refine az ?_
      ((repeat refine WC.seq ?_);refine WC.draw (plans:=Et) (by kernel_rfl) ?_;simp only [Et,ak])
      (try simp (maxSteps:=2000000) only [aE,rL,rD,rB,reduceIte,af,Chk,t0,t3,eJ,aH,bkj.at ty2 rfl,i64]);refine (HH hb (show dJ os<2^40 by omega)).mono fun v h4 ⟨e4,f4⟩=>?_;subst e4 f4;(try simp (maxSteps:=2000000) only [aE,rL,rD,rB,reduceIte,af,Chk,t0,t3,eJ,dF,ed,aH,bkj.at ty2 rfl,i64,cF]);have ew:IntKind.i64.wrap (base+(upN (dJ os):Nat) - base)=((upN (dJ os):Nat):Int):=by rw [cy (by omega) (by omega)];omega
      rw [ew];refine cq bkj ty2 rfl (show 5+2+1≤12 by decide) rfl ?_;intro h5 b5 n5 f5;have b5:Has h5 kb (lkV ls base (.slice stb 0 L.length (.lit L.length)) db sb (im0 (upN (dJ os):Nat))):=b5;refine am ?_;refine ap ?_;(try simp only [aE,rL,rD,rB,reduceIte,t4,ct])
      refine ⟨_,?_,_,2,rfl,⟨by omega,fun b hb=>by rw [f5.ca b hb.2.1,fj.ca b ⟨by omega,hb.2.2⟩,ff.ca b hb]⟩,rfl,by omega,by omega,?_⟩
      ·omega
      (try simp only [aE,rL,rD,rB,reduceIte,t0,t2,t3]);exact ⟨aD,aD,(by first|trivial|rfl),(by first|trivial|rfl),b5,bsn.fix f5⟩
     ·obtain rfl:sec=2:=by omega
      have ha0:dJ os=a0:=by rw [←ha0];rfl
      subst ha0;have e1:iG 2 os (dJ os)=ko os:=rfl;rw [e1] at t3;refine aF (WC.skip ?_);refine ax ?_;(try simp only [aE,rL,rD,rB,reduceIte,t4,ct])
      refine ⟨_,?_,_,3,rfl,⟨by omega,fun b hb=>by rw [fj.ca b ⟨by omega,hb.2.2⟩,ff.ca b hb]⟩,rfl,by omega,by omega,?_⟩
      ·omega
      (try simp only [aE,rL,rD,rB,reduceIte,t0,t2,t3]);exact ⟨aD,aD,(by first|trivial|rfl),(by first|trivial|rfl),bkj,bsn⟩
   all_goals (try simp only [aE,rL,rD,rB,reduceIte,t0,t2,t3,t4])
   all_goals simp [iG]
  ·refine aF (WC.exit ?_);obtain rfl:sec=3:=by omega
   have t3:ts.get 3=some (.int .i64 (base+(ko os:Nat))):=t3;have bkh:Has hh kb (lkV ls base (.slice stb 0 L.length (.lit L.length)) db sb (im0 (upN (dJ os):Nat))):=bkh;have bsh:Has hh stb (stC L.length (stG base os)):=bsh;have hup:=iS (ko os);refine ax ?_;(try simp only [aE,rL,rD,rB,reduceIte,t3]);refine (HH hb (show ko os<2^40 by omega)).mono fun v h4 ⟨e4,f4⟩=>?_;subst e4;have f4:=f4.symm;subst f4
   have htab:base+(upN (ko os):Nat)=base+(fM os:Nat):=rfl;rw [htab];have htl:fM os≤41 * 16400:=by unfold fM;omega
   generalize htabA:fM os=T at *;have F0:Fix (fun b=>b<h3.bX∧b≠kb∧b≠stb) h3 hh:=ff;have FL:Fix (fun b=>b<h.bX∧b≠kb) h hh:=⟨by omega,fun b hb=>by rw [ff.ca b ⟨by omega,hb.2,by omega⟩,F3.ca b ⟨by omega,hb.2⟩,f1.ca b hb.1]⟩;have md4:Mq hh db (mv dV D):=md.fix FL ⟨hdb,fun e=>kd e.symm⟩;have ms4:Mq hh sb (mv i64 S):=ms.fix FL ⟨hsb,fun e=>ks e.symm⟩;have br4:Has hh h.bX (cG (0,0)):=(b1.fix F3 ⟨by omega,by omega⟩).fix ff ⟨by omega,by omega,by omega⟩
   refine ax ?_;(try simp only [aE,rL,rD,rB,reduceIte,t0,oq,aH,bkh.at ld rfl]);refine (zl).mono fun v h5 ⟨e5,b5,n5,f5⟩=>?_;subst e5;refine az ?_;refine (ua (.inl rfl) b5 (ms4.fix f5) nS (by omega) (fun p hp=>by have:=kS p hp;omega)).mono fun v h6 ⟨bf6,in6,f6⟩=>?_;have x6:=f6.bX;have ss6:=zQ bf6 (jV S);have F6:cH hh h6:=⟨by omega,fun b hb=>by rw [f6.ca b (by omega),f5.ca b hb]⟩;have bk6:=bkh.fix F6;have bs6:=bsh.fix F6
   have md6:=md4.fix F6;have ms6:=ms4.fix F6;have br6:=br4.fix F6;have a6:=ah.fix F6;have hlK:=jV S;generalize hK:dK (S.map (·.1))=K at *;(try simp only [aE,rL,rD,rB,reduceIte,Sl.lenB ss6 cD rfl]);refine ao ?_
   refine WC.while (fun m fr hj=>∃ts j S2,fr=⟨ts,210,[],34,none⟩∧Fix (fun b=>b<h6.bX∧b≠sb) h6 hj∧m=K.length - j∧j≤K.length∧ts.get 0=some (.ptr kb 0)∧ts.get 2=some (.ptr h.bX 0)∧ts.get 3=some (.int .i64 (base+(T:Nat)+8 * (j:Nat)))∧ts.get 79=some v∧ts.get 80=some (.int .i64 K.length)∧ts.get 81=some (.int .i64 j)∧Mq hj sb (mv i64 S2)∧iY (base+(T:Nat)+8 * (j:Nat)) (K.drop j) S2=iY (base+(T:Nat)) K S) ?_ ⟨_,0,S,rfl,Fix.refl _ _,rfl,by omega,?_,?_,?_,?_,?_,?_,ms6,by simp⟩
   ·rintro m fr hj ⟨ts,j,S2,rfl,fj,rfl,hjl,t0,t2,t3,t79,t80,t81,mj,hS⟩
    have xj:=fj.bX;have bkj:=bk6.fix fj ⟨by omega,by omega⟩;have ssj:Ss g hj v K:=Sl.fix ss6 (in6.sub fun b hb=>⟨hb.2,by omega⟩) fj;refine ap ?_;(try simp only [aE,rL,rD,rB,reduceIte,t80,t81]);refine aw ?_
    by_cases hlj:j<K.length
    ·refine aG (WC.skip ?_);refine az ?_;obtain ⟨p,p1,p2⟩:=ssj.at cD rfl ty9 rfl rfl hlj;have p2:=p2 hj fun _ _ _ _ _=>rfl;rw [da hlj] at hS;simp only [iY] at hS;refine ao ?_;refine ap ?_;(try simp only [aE,rL,rD,rB,reduceIte,t79,t81,p1,p2]);refine ap ?_;(try simp only [aE,rL,rD,rB,reduceIte,t0,t3,oq,aH,bkj.at ld rfl,iA]);have e64:(V.int .i64 (base+(T:Nat)+8 * (j:Nat)))=i64 (base+(T:Nat)+8 * (j:Nat)):=rfl
     rw [e64];refine jX mj ld rfl ty9 rfl ty2 ?_;intro hu mu nu fu;rw [sW] at mu;refine ax ?_;(try simp only [aE,rL,rD,rB,reduceIte,t3,ct]);refine ap ?_;(try simp only [aE,rL,rD,rB,reduceIte,t81,ct])
     refine ⟨_,?_,_,j+1,ia K[j] (base+(T:Nat)+8 * (j:Nat)) S2,rfl,⟨by omega,fun b hb=>by rw [fu.ca b hb.2,fj.ca b hb]⟩,rfl,by omega,?_⟩
     ·omega
     (try simp only [aE,rL,rD,rB,reduceIte,t0,t2,t79,t80])
     refine ⟨aD,aD,?_,aD,aD,?_,mu,?_⟩
     ·rw [cy (by omega) (by omega)]
      congr 2
      omega
     ·rw [cy (by omega) (by omega)];rfl
     ·rw [←hS]
      congr 1
      omega
    ·refine aF (WC.exit ?_);have:j=K.length:=by omega
     subst this;rw [bU] at hS;simp only [iY] at hS;have F7:Fix (fun b=>b<h6.bX∧b≠sb) h6 hj:=fj;have md7:=md6.fix fj ⟨by omega,ds⟩;have bs7:=bs6.fix fj ⟨by omega,by omega⟩;have br7:=br6.fix fj ⟨by omega,by omega⟩;have a7:=a6.fix fj fun b hb=>⟨by omega,by omega⟩;have hsz:eQ os S=T+8 * S.length:=by unfold eQ;rw [htabA]
     have e1:IntKind.i64.wrap (base+(T:Nat)+8 * (K.length:Nat) - base)=((eQ os S:Nat):Int):=by
      rw [cy (by omega) (by omega),hsz];omega
     have F7h:Fix (fun b=>b<h.bX∧b≠kb∧b≠sb) h hj:=⟨by omega,fun b hb=>by rw [fj.ca b ⟨by omega,hb.2.2⟩,F6.ca b (by omega),FL.ca b ⟨hb.1,hb.2.1⟩]⟩;generalize hN:eQ os S=N at *;have hN':N≤2^30:=by omega
     (try simp only [aE,rL,rD,rB,reduceIte,nb4]);refine ap ?_;(try simp only [aE,rL,rD,rB,reduceIte,t0,t3,eJ,aH,bkj.at ty2 rfl,i64,cF,e1]);refine aw ?_
     by_cases hbig:131072<N
     ·refine aG ?_;refine ay ?_;refine (lC).mono fun v hb2 ⟨eb,fb⟩=>?_;subst eb;have xb:=fb.bX;(try simp only [aE,rL,rD,rB,reduceIte,t2]);refine cq (br7.fix fb) cP rfl (aI 2) (cN _) ?_;intro hc bc nc fc;have lc:cx (E g) hc 35 (.ptr h.bX 0)=some (.agg (cG (0,18))):=bc.agg cP rfl (aI 2);refine az ?_;refine WC.ret ?_;(try simp only [aE,rL,rD,rB,reduceIte,t2,lc]);exact ⟨⟨by omega,fun b hb=>by rw [fc.ca b (by omega),fb.ca b (by omega),F7h.ca b ⟨hb.1,hb.2.1,hb.2.2.2⟩]⟩,by rw [if_pos hbig];trivial⟩
     ·refine aF (WC.skip ?_);refine az ?_
      refine WC.seq (WC.mono (Q:=fun e fr h9=>e=.normal∧∃ts,fr=⟨ts,210,[],34,none⟩∧ts.get 0=some (.ptr kb 0)∧ts.get 2=some (.ptr h.bX 0)∧hj.bX<h9.bX∧Fix (fun b=>b<hj.bX∧b≠kb) hj h9∧Has h9 kb (lkV ls base (.slice stb 0 L.length (.lit L.length)) db sb [i64 base,.slice hj.bX 0 N (.lit N),i64 (upN (dJ os):Nat),i64 0,.nils,.nils,.nils])∧Has h9 hj.bX ((List.replicate N (0:UInt8)).map u8)) ?_ ?_)
      ·have e8:List.replicate N (V.int .u8 0)=(List.replicate N (0:UInt8)).map u8:=by rw [List.map_replicate];rfl
       ((repeat refine WC.seq ?_);refine WC.draw (plans:=Es) (by kernel_rfl) ?_;simp only [Es,ak])
       refine ⟨?_,?_⟩
       ·(try simp (maxSteps:=2000000) only [aE,rL,rD,rB,reduceIte,af,Chk,t0,t3,eJ,dF,cV,dX,aH,bkj.at ty2 rfl,i64,cF,e1,jT]);refine iQ (s:=1) (v:=.int .u8 0) (n:=N) cM rfl ty5 rfl rfl (by decide) (show 1 * N≤281474976710656 by omega) (by omega) ?_;intro h8 b8 n8 f8;rw [bL,e8] at b8;have bk8:=bkj.fix f8;(try simp (maxSteps:=2000000) only [aE,rL,rD,rB,reduceIte,af,Chk,t0,t3,eJ,dF,cV,dX,aH,bk8.at ty2 rfl,i64,cF,e1])
        refine cq bk8 ty2 rfl (show 5+1≤12 by decide) rfl ?_;intro h9 b9 n9 f9;have b9:Has h9 kb (lkV ls base (.slice stb 0 L.length (.lit L.length)) db sb [i64 base,.nils,i64 (upN (dJ os):Nat),i64 0,.nils,.nils,.nils]):=b9;(try simp (maxSteps:=2000000) only [aE,rL,rD,rB,reduceIte,af,Chk,t0,t3,eJ,dF,cV,dX,aH,b9.at ty2 rfl,i64,cF,e1]);refine cq b9 cM rfl (show 5+1+1≤12 by decide) rfl ?_;intro h10 b10 n10 f10
        have b10:Has h10 kb (lkV ls base (.slice stb 0 L.length (.lit L.length)) db sb [i64 base,.slice hj.bX 0 N (.lit N),i64 (upN (dJ os):Nat),i64 0,.nils,.nils,.nils]):=b10;(try simp (maxSteps:=2000000) only [aE,rL,rD,rB,reduceIte,af,Chk,t0,t3,eJ,dF,cV,dX,aH,b10.at ty2 rfl,i64,cF,e1]);refine ⟨_,rfl,?_,?_,by omega,⟨by omega,fun b hb=>by rw [f10.ca b hb.2,f9.ca b hb.2,f8.ca b hb.1]⟩,b10,(b8.fix f9).fix f10⟩
        all_goals (try simp only [aE,rL,rD,rB,reduceIte,t0,t2])
       ·(try simp (maxSteps:=2000000) only [aE,rL,rD,rB,reduceIte,af,Chk,t0,t3,eJ,dF,cV,dX,aH,bkj.at ty2 rfl,i64,cF,e1,jT]);refine cq bkj ty2 rfl (show 5+1≤12 by decide) rfl ?_;intro h9 b9 n9 f9;have b9:Has h9 kb (lkV ls base (.slice stb 0 L.length (.lit L.length)) db sb [i64 base,.nils,i64 (upN (dJ os):Nat),i64 0,.nils,.nils,.nils]):=b9;(try simp (maxSteps:=2000000) only [aE,rL,rD,rB,reduceIte,af,Chk,t0,t3,eJ,dF,cV,dX,aH,b9.at ty2 rfl,i64,cF,e1,jT])
        refine iQ (s:=1) (v:=.int .u8 0) (n:=N) cM rfl ty5 rfl rfl (by decide) (show 1 * N≤281474976710656 by omega) (by omega) ?_;intro h8 b8 n8 f8;rw [bL,e8] at b8;have bk8:=b9.fix f8;(try simp (maxSteps:=2000000) only [aE,rL,rD,rB,reduceIte,af,Chk,t0,t3,eJ,dF,cV,dX,aH,bk8.at ty2 rfl,i64,cF,e1]);refine cq bk8 cM rfl (show 5+1+1≤12 by decide) rfl ?_;intro h10 b10 n10 f10;rw [n9] at b10 b8;have b10:Has h10 kb (lkV ls base (.slice stb 0 L.length (.lit L.length)) db sb [i64 base,.slice hj.bX 0 N (.lit N),i64 (upN (dJ os):Nat),i64 0,.nils,.nils,.nils]):=b10
        (try simp (maxSteps:=2000000) only [aE,rL,rD,rB,reduceIte,af,Chk,t0,t3,eJ,dF,cV,dX,aH,b10.at ty2 rfl,i64,cF,e1]);refine ⟨_,rfl,?_,?_,by omega,⟨by omega,fun b hb=>by rw [f10.ca b hb.2,f8.ca b (by omega),f9.ca b hb.2]⟩,b10,b8.fix f10⟩
        all_goals (try simp only [aE,rL,rD,rB,reduceIte,t0,t2])
      rintro e fr h9 ⟨rfl,ts,rfl,t0,t2,x9,F9,bk9,bb9⟩
      have bb9:=bb9.at0;have hbbn:hj.bX<h9.bX:=x9;generalize hbb:hj.bX=bb at *;have md9:=md7.fix F9 ⟨by omega,fun e=>kd e.symm⟩;have ms9:=mj.fix F9 ⟨by omega,fun e=>ks e.symm⟩;have bs9:=bs7.fix F9 ⟨by omega,by omega⟩;have br9:=br7.fix F9 ⟨by omega,by omega⟩;have a9:=a7.fix F9 fun b hb=>⟨by omega,by omega⟩;refine ax ?_;(try simp only [aE,rL,rD,rB,reduceIte,t0,lV,aH,bk9.at jr rfl,Sl.lenB a9.sl jr rfl])
      refine ao ?_
      refine WC.while (fun m fr hi=>∃ts i bs,fr=⟨ts,210,[],34,none⟩∧Fix (fun b=>b<h9.bX∧b≠bb) h9 hi∧m=L.length - i∧i≤L.length∧ts.get 0=some (.ptr kb 0)∧ts.get 2=some (.ptr h.bX 0)∧ts.get 124=some ls∧ts.get 125=some (.int .i64 L.length)∧ts.get 126=some (.int .i64 i)∧At hi bb 0 (bs.map u8)∧bs.length=N∧pg os i (os.drop i) bs=pg os 0 os (List.replicate N 0)) ?_ ⟨_,0,_,rfl,Fix.refl _ _,rfl,by omega,?_,?_,?_,?_,?_,bb9,by simp,rfl⟩
      ·rintro m fr hi ⟨ts,i,bs,rfl,fi,rfl,hil,t0,t2,t124,t125,t126,bbi,lbs,hB⟩
       have xi:=fi.bX;have bki:=bk9.fix fi ⟨by omega,by omega⟩;have bsi:=bs9.fix fi ⟨by omega,by omega⟩;have ai:=a9.fix fi fun b hb=>⟨by omega,by omega⟩;refine ap ?_;(try simp only [aE,rL,rD,rB,reduceIte,t125,t126]);refine aw ?_
       by_cases hli:i<L.length
       ·refine aG (WC.skip ?_);refine az ?_;obtain ⟨p,p1,p2⟩:=ai.sl.at (fun _=>rfl) jr rfl iq rfl (by decide) rfl hli;have p2:=p2 hi fun _ _ _ _ _=>rfl;have obi:=ai.ob _ (aP hli);have hoi:os[i]'(by omega)=L[i].2:=by subst hos;simp
        have q1:=mK (os:=os) (i:=i) (by omega);have q2:=mJ (os:=os) (i:=i) (by omega);rw [hoi,htabA] at q1 q2;rw [da (by omega),hoi] at hB;simp only [pg] at hB;refine ao ?_;refine ap ?_;(try simp only [aE,rL,rD,rB,reduceIte,t124,t126,p1,p2]);refine cz iq ?_;intro h11 b11 n11 f11;refine az ?_;refine cq b11 iq rfl (aI 7) (Oc.one obi) ?_;intro h12 b12 n12 f12;have b12:Has h12 hi.bX [.str L[i].2.name,L[i].1.code,L[i].1.data,L[i].1.ce,L[i].1.ci,L[i].1.cf,.str L[i].2.entry]:=b12
        have F12:cH hi h12:=⟨by omega,fun b hb=>by rw [f12.ca b (by omega),f11.ca b hb]⟩;have ob12:=obi.fix F12;have bk12:=bki.fix F12;have bs12:=bsi.fix F12;have bb12:=bbi.fix F12;have s1:=bs12.at (E:=E g) ty2 rfl (i * 3+1);rw [gw (by omega),jM (by omega) (by omega)] at s1;have s2:=bs12.at (E:=E g) ty2 rfl (i * 3+2);rw [gw (by omega),jM (by omega) (by omega)] at s2;have w1:IntKind.i64.wrap (base+(stO os 1 i:Nat) - base)=((stO os 1 i:Nat):Int):=by rw [cy (by omega) (by omega)];omega
        have w2:IntKind.i64.wrap (base+(stO os 2 i:Nat) - base)=((stO os 2 i:Nat):Int):=by rw [cy (by omega) (by omega)];omega
        obtain ⟨o1,c1,sl1,so1⟩:=oT (g:=g) (b:=bb) (n:=N) (k:=.i64) cM rfl ty5 rfl (show stO os 1 i≤N by omega);obtain ⟨o2,c2,sl2,so2⟩:=oT (g:=g) (b:=bb) (n:=N) (k:=.i64) cM rfl ty5 rfl (show stO os 2 i≤N by omega);have ix1:cK (E g) 126 (.ptr stb (i * 3)) (.int .i64 1)=some (.ptr stb (i * 3+1)):=by have:=ke (g:=g) (b:=stb) (o:=i * 3) (k:=1) (ik:=.i64) gK rfl ty2 (by decide);simpa using this
        have ix2:cK (E g) 126 (.ptr stb (i * 3)) (.int .i64 2)=some (.ptr stb (i * 3+2)):=by have:=ke (g:=g) (b:=stb) (o:=i * 3) (k:=2) (ik:=.i64) gK rfl ty2 (by decide);simpa using this
        refine az ?_
        ((repeat refine WC.seq ?_);refine WC.draw (plans:=Er) (by kernel_rfl) ?_;simp only [Er,ak])
        (try simp (maxSteps:=2000000) only [aE,rL,rD,rB,reduceIte,af,Chk,t0,t126,eJ,kh,dF,dX,xG,aH,bk12.at ty2 rfl,bk12.at cM rfl,bk12.at eK rfl,b12.at cM rfl,ef eK rfl gK hli,ix1,s1,i64,cF,w1,sl1]);refine nU bb12 (by omega) lbs so1 ob12.code ?_;intro v13 h13 a13 n13 f13;have bk13:=bk12.fix f13;have bs13:=bs12.fix f13;have b13:=b12.fix f13;have ob13:=ob12.fix f13;have s1':=bs13.at (E:=E g) ty2 rfl (i * 3+1)
        rw [gw (by omega),jM (by omega) (by omega)] at s1';have s2':=bs13.at (E:=E g) ty2 rfl (i * 3+2);rw [gw (by omega),jM (by omega) (by omega)] at s2';have l13:(er bs (stO os 1 i) L[i].2.code).length=N:=by rw [dP (by omega),lbs]
        (try simp (maxSteps:=2000000) only [aE,rL,rD,rB,reduceIte,af,Chk,t0,t126,eJ,kh,dF,dX,xG,aH,bk13.at ty2 rfl,bk13.at cM rfl,bk13.at eK rfl,b13.at cM rfl,ef eK rfl gK hli,ix1,s1',i64,cF,w1])
        ((repeat refine WC.seq ?_);refine WC.draw (plans:=Ep) (by kernel_rfl) ?_;simp only [Ep,ak])
        (try simp (maxSteps:=2000000) only [aE,rL,rD,rB,reduceIte,af,Chk,t0,t126,eJ,kh,dF,dX,xE,aH,bk13.at ty2 rfl,bk13.at cM rfl,bk13.at eK rfl,b13.at cM rfl,ef eK rfl gK hli,ix2,s2',i64,cF,w2,sl2]);refine nU a13 (by omega) l13 so2 ob13.data ?_;intro v14 h14 a14 n14 f14;have l14:(er (er bs (stO os 1 i) L[i].2.code) (stO os 2 i) L[i].2.data).length=N:=by rw [dP (by omega),l13]
        have bk14:=bk13.fix f14;have bs14:=bs13.fix f14;have b14:=b13.fix f14;have s2'':=bs14.at (E:=E g) ty2 rfl (i * 3+2);rw [gw (by omega),jM (by omega) (by omega)] at s2'';(try simp (maxSteps:=2000000) only [aE,rL,rD,rB,reduceIte,af,Chk,t0,t126,eJ,kh,dF,dX,xE,aH,bk14.at ty2 rfl,bk14.at cM rfl,bk14.at eK rfl,b14.at cM rfl,ef eK rfl gK hli,ix2,s2'',i64,cF,w2]);refine ap ?_;(try simp only [aE,rL,rD,rB,reduceIte,t126,ct])
        refine ⟨_,?_,_,i+1,_,rfl,⟨by omega,fun b hb=>by rw [f14.ca b hb.2,f13.ca b hb.2,F12.ca b (by omega),fi.ca b hb]⟩,rfl,by omega,?_,?_,?_,?_,?_,a14,l14,hB⟩
        ·omega
        all_goals (try simp only [aE,rL,rD,rB,reduceIte,t0,t2,t124,t125])
        rw [cy (by omega) (by omega)];rfl
       ·refine aF (WC.exit ?_);have:i=L.length:=by omega
        subst this;rw [bK (by omega)] at hB;simp only [pg] at hB;subst hB;have mdi:=md9.fix fi ⟨by omega,by omega⟩;have msi:=ms9.fix fi ⟨by omega,by omega⟩;have bri:=br9.fix fi ⟨by omega,by omega⟩;(try simp only [aE,rL,rD,rB,reduceIte,nb6]);refine ap ?_;(try simp only [aE,rL,rD,rB,reduceIte,t0,fI,aH,bki.at eE rfl,w_range]);have mdu:Mq hi db (mv dV (nI (lp base os) [] D)):=by rw [HF];exact mdi
        refine Gc mdu eE rfl ?_;intro h15 it15 n15 f15;have hlu:∀seen,(mv dV (nI (lp base os) seen D)).length=D.length:=fun seen=>by rw [uo,qk]
        rw [hlu] at it15;refine az ?_;refine ao ?_
        refine WC.while (fun m fr hq=>∃ts seen,fr=⟨ts,210,[],34,none⟩∧Fix (fun b=>b<h15.bX∧b≠hi.bX∧b≠db) h15 hq∧m=CK D.length seen∧ts.get 0=some (.ptr kb 0)∧ts.get 2=some (.ptr h.bX 0)∧ts.get 180=some (.ptr hi.bX 0)∧Itr hq hi.bX db D.length seen∧Mq hq db (mv dV (nI (lp base os) seen D))) ?_ ⟨_,[],rfl,Fix.refl _ _,rfl,?_,?_,?_,it15,mdu.fix f15⟩
        ·rintro m fr hq ⟨ts,seen,rfl,fq,rfl,t0,t2,t180,itq,mq⟩
         have xq:=fq.bX;have Fq:Fix (fun b=>b<hi.bX∧b≠db) hi hq:=⟨by omega,fun b hb=>by rw [fq.ca b ⟨by omega,by omega,hb.2⟩,f15.ca b hb.1]⟩;have bkq:=bki.fix Fq ⟨by omega,kd⟩;have bsq:=bsi.fix Fq ⟨by omega,by omega⟩;have itq':Itr hq hi.bX db (mv dV (nI (lp base os) seen D)).length seen:=by rw [hlu];exact itq
         refine ap ?_;(try simp only [aE,rL,rD,rB,reduceIte,t180,w_next,I2])
         refine H2 itq' mq (fun j hjl hjs h16 it16 n16 f16=>?_) (fun hall=>?_)
         ·have hjl:=hjl;rw [hlu] at hjl it16;refine az ?_;refine aw ?_;refine aG (WC.skip ?_);refine az ?_;have m16:=mq.fix f16;have it16':Itr h16 hi.bX db (mv dV (nI (lp base os) seen D)).length (seen++[j]):=by rw [hlu];exact it16
          have hj2:j<(mv dV (nI (lp base os) seen D)).length:=by rw [hlu];exact hjl
          have ent:=Jm it16' m16 hj2
          have eG:(mv dV (nI (lp base os) seen D))[j]=(D[j].1,dV D[j].2):=by
           have:=DW (lp base os) hjl hjs;simp only [mv,List.getElem_map,this]
          rw [eG] at ent;have gG:=gD _ (aP hjl);generalize hG:D[j].2=G at ent gG;obtain ⟨gobj,gs1,gs2,go1,go2⟩:=gG;have bk16:=bkq.fix f16;have bs16:=bsq.fix f16;refine ao ?_;refine ap ?_;(try simp only [aE,rL,rD,rB,reduceIte,t180,w_entry,ent,dV]);refine cz gz ?_;intro h17 b17 n17 f17;refine az ?_;refine cq b17 gz rfl (aI 8) (Ak G) ?_;intro h18 b18 n18 f18;have c18:Has h18 h16.bX (glV G):=b18;have b18:Has h18 h16.bX [i64 G.cl,.bool G.cm,i64 (G.obj:Int),.str G.sym.name,i64 G.sym.sec,i64 G.sym.off,.bool G.sym.cn,.bool G.sym.cm]:=b18
          have F18:cH h16 h18:=⟨by omega,fun b hb=>by rw [f18.ca b (by omega),f17.ca b hb]⟩;have bk18:=bk16.fix F18;have bs18:=bs16.fix F18;have m18:=m16.fix F18;obtain ⟨sec,hsec⟩:∃sec:Nat,G.sym.sec=(sec:Int):=⟨G.sym.sec.toNat,by omega⟩;have s3:=bs18.at (E:=E g) ty2 rfl (G.obj * 3+sec);rw [gw (by omega),jM (by omega) (by omega)] at s3;have ix3:cK (E g) 126 (.ptr stb (G.obj * 3)) (.int .i64 sec)=some (.ptr stb (G.obj * 3+sec)):=by have:=ke (g:=g) (b:=stb) (o:=G.obj * 3) (k:=sec) (ik:=.i64) gK rfl ty2 (show sec<3 by omega);simpa using this
          have hst:stO os sec G.obj≤41 * 16400:=by
           have:=zP (os:=os) (sec:=sec) (i:=G.obj) (by omega) (by omega) gobj;rw [htabA] at this;omega
          have e4:IntKind.i64.wrap (base+(stO os sec G.obj:Nat)+G.sym.off)=(lp base os G).cl:=by
           rw [cy (by omega) (by omega)];show _=base+(stO os G.sym.sec.toNat G.obj:Nat)+G.sym.off;rw [hsec];rfl
          refine az ?_
          ((repeat refine WC.seq ?_);refine WC.draw (plans:=Eo) (by kernel_rfl) ?_;simp only [Eo,ak])
          (try simp (maxSteps:=2000000) only [aE,rL,rD,rB,reduceIte,af,Chk,t0,kh,E4,E1,E5,eV,kH,aH,bk18.at eK rfl,b18.at ty3 rfl,b18.at ty2 rfl,hsec,i64,ef eK rfl gK (show G.obj<L.length by omega),ix3,s3,ct,e4]);refine cq c18 ty2 rfl (show 0+1≤8 by decide) rfl ?_;intro h19 b19 n19 f19;have c19':Has h19 h16.bX (glV (lp base os G)):=b19;have c19:Has h19 h16.bX [i64 (lp base os G).cl,.bool G.cm,i64 (G.obj:Int),.str G.sym.name,i64 G.sym.sec,i64 G.sym.off,.bool G.sym.cn,.bool G.sym.cm]:=b19
          have m19:=m18.fix f19;have bk19:=bk18.fix f19;have bs19:=bs18.fix f19;have l19:cx (E g) h19 174 (.ptr h16.bX 0)=some (dV (lp base os G)):=c19'.agg gz rfl (aI 8);have s4:=bs19.at (E:=E g) ty2 rfl (G.obj * 3+sec);rw [gw (by omega),jM (by omega) (by omega)] at s4;(try simp (maxSteps:=2000000) only [aE,rL,rD,rB,reduceIte,af,Chk,t0,kh,E4,E1,E5,eV,kH,aH,bk19.at eK rfl,c19.at ty3 rfl,c19.at ty2 rfl,hsec,i64,ef eK rfl gK (show G.obj<L.length by omega),ix3,s4,ct,e4])
          ((repeat refine WC.seq ?_);refine WC.draw (plans:=En) (by kernel_rfl) ?_;simp only [En,ak])
          (try simp (maxSteps:=2000000) only [aE,rL,rD,rB,reduceIte,af,Chk,t0,fI,aH,bk19.at eE rfl,l19,iA]);refine jX m19 eE rfl ty9 rfl gz ?_;intro hu mu nu fu;rw [sW,←hG,FK (lp base os) hjl nD hjs] at mu;refine am ?_;refine ⟨_,FN hjl hjs,_,seen++[j],rfl,⟨by omega,fun b hb=>by rw [fu.ca b hb.2.2,f19.ca b (by omega),F18.ca b (by omega),f16.ca b hb.2.1,fq.ca b hb]⟩,rfl,?_,?_,?_,((it16.fix F18).fix f19).fix fu,mu⟩
          all_goals (try simp only [aE,rL,rD,rB,reduceIte,t0,t2,t180])
         ·refine az ?_;refine aw ?_;refine aF (WC.exit ?_);rw [HG _ (fun j hj=>hall j (by rw [hlu];exact hj))] at mq;have brq:=bri.fix Fq ⟨by omega,by omega⟩;(try simp only [aE,rL,rD,rB,reduceIte,nb8]);refine ap ?_;(try simp only [aE,rL,rD,rB,reduceIte,iR,t2]);refine cq brq cP rfl (aI 2) (cN _) ?_;intro h20 b20 n20 f20;have l20:cx (E g) h20 35 (.ptr h.bX 0)=some (.agg (cG (0,0))):=b20.agg cP rfl (aI 2)
          refine az ?_;refine WC.ret ?_;(try simp only [aE,rL,rD,rB,reduceIte,t2,l20]);refine ⟨⟨by omega,fun b hb=>by rw [f20.ca b (by omega),Fq.ca b ⟨by omega,hb.2.2.1⟩,fi.ca b ⟨by omega,by omega⟩,F9.ca b ⟨by omega,hb.2.1⟩,F7h.ca b ⟨hb.1,hb.2.1,hb.2.2.2⟩]⟩,?_⟩;rw [if_neg hbig];refine ⟨by trivial,stb,bb,by omega,by omega,by omega,by omega,by omega,bkq.fix f20,bsq.fix f20,((bbi.fix Fq ⟨by omega,by omega⟩).fix f20),mq.fix f20,?_⟩
          rw [←hS];exact (msi.fix Fq ⟨by omega,fun e=>ds e.symm⟩).fix f20
        all_goals (try simp only [aE,rL,rD,rB,reduceIte])
        all_goals (first|done|rfl|trivial|simp [t0,t2])
      all_goals (try simp only [aE,rL,rD,rB,reduceIte])
      all_goals (first|done|rfl|trivial|simp [t0,t2])
   all_goals (try simp only [aE,rL,rD,rB,reduceIte])
   all_goals (first|done|rfl|trivial|simp)
 all_goals (try simp only [aE,rL,rD,rB,reduceIte])
 all_goals simp
end Go.Proofs.OP
