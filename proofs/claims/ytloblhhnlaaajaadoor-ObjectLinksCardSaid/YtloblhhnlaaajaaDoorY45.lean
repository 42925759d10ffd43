/- Plain facts of the reference's Link. -/
import Derived.Test.YtloblhhnlaaajaaDoorY44
set_option linter.unusedVariables false
set_option linter.unusedSimpArgs false
set_option linter.defProp false
namespace Go.Proofs.OP
open Go Go.Ev
open Go.Proofs
open Nat renaming reduceLT → rL, reduceEqDiff → rD, reduceBEq → rB
variable {g : T (List V)}
def yw (base cb:Int) (os:List ObjD) (N:List (List UInt8)) (i:Nat) (o:ObjD) (r:RelD):Int :=
 if r.kind=1 then (nH base os i o r.sym).getD 0+r.add - (base+(stO os r.sec.toNat i:Nat)+r.off) else if r.kind=2 then mO cb r.sym 0 N+r.add else (nH base os i o r.sym).getD 0+r.add
def CZ (base cb:Int) (os:List ObjD) (N:List (List UInt8)) (i:Nat) (o:ObjD):List RelD→List UInt8→List UInt8
 | [],bs=>bs
 | r::rest,bs=>CZ base cb os N i o rest (er bs (stO os r.sec.toNat i+r.off.toNat) (leB (U (yw base cb os N i o r)) 4))
def yx (base cb:Int) (os:List ObjD) (N:List (List UInt8)):Nat→List ObjD→List UInt8→List UInt8
 | _,[],bs=>bs
 | i,o::r,bs=>yx base cb os N (i+1) r (CZ base cb os N i o o.ci bs)
def yE:List SymD→List (List UInt8)→List (List UInt8)
 | [],N=>N
 | s::r,N=>yE r (if s.cn=true∧0<s.sec then pn s.name N else N)
def tf:List ObjD→List (List UInt8)→List (List UInt8)
 | [],N=>N
 | o::r,N=>tf r (yE o.ce N)
def nV (base:Int) (os:List ObjD) (K:List (List UInt8)):List ExpD:=K.map fun k=>⟨k,(nL base os k).getD 0⟩
def iT (base cb:Int) (os:List ObjD) (N K:List (List UInt8)):List SlotD:=K.map fun k=>⟨k,mO cb k 0 N,(nL base os k).getD 0⟩
def nW (base code:Int) (os:List ObjD):Nat→List ObjD→Int→Except (Int×Int) Int
 | _,[],e=>.ok e
 | i,o::r,e=>if o.entry≠[]∧e=0 then
   if (nH base os i o o.entry).getD 0<base∨base+code≤(nH base os i o o.entry).getD 0∨(nH base os i o o.entry).getD 0=0 then .error ((i:Int),14) else nW base code os (i+1) r ((nH base os i o o.entry).getD 0)
  else nW base code os (i+1) r e
def Bo (base:Int) (os:List ObjD) (e:Int):ImgD :=
 ⟨base,sZ base (iT base (base+(fM os:Nat)) os (gL os []) (gL os [])) (yx base (base+(fM os:Nat)) os (gL os []) 0 os (pg os 0 os (List.replicate (oW os) 0))),(upN (dJ os):Nat),e,
  nV base os (tf os []),iT base (base+(fM os:Nat)) os (gL os []) (gL os []),gy os []⟩
def ud (os:List ObjD) (base:Int):Except (Int×Int) ImgD :=
 if os.length=0 then .error (0,9) else if 20<os.length then .error (0,18) else if base<0∨1073741824<base∨base.tmod 16≠0 then .error (0,34) else
  match rfP base os with
  | .error f=>.error f
  | .ok _=>match nW base (upN (dJ os):Nat) os 0 os 0 with
   | .error f=>.error f
   | .ok e=>.ok (Bo base os e)
theorem sY {base:Int} {os:List ObjD} (lg:Lg base os) {k:List UInt8} {w:Bool}:∀{r:List ObjD} {i:Nat} {a:Int},os.drop i=r→rN base os k w i r=some a→0≤a∧a≤2^32
 | [],i,a,_,h=>by simp [rN] at h
 | o::r,i,a,hi,h=>by
  have ho:os[i]?=some o:=by
   have:(os.drop i)[0]?=some o:=by rw [hi];rfl
   simpa using this
  obtain ⟨hlt,ho2⟩:=List.getElem?_eq_some_iff.1 ho;have hi':os.drop (i+1)=r:=by rw [←List.drop_drop,hi];rfl
  simp only [rN] at h
  split at h
  ·rename_i hd;injection h with h;simp only [isD,aU,decide_eq_true_eq] at hd;obtain ⟨d1,d2,d3,_⟩:=hd;have gd:=lg.good o (bR ho);have gm:=(ng d1).1;have so:=gd.ce _ gm;have so2:=so.s2;have so3:=gd.off gm;have so4:=so.o0;have hst:=tu lg (sec:=(eD k o.ce).sec.toNat) (i:=i) (by omega) (by omega) hlt;have b0:=lg.base.pos;have b1:=lg.base.most;omega
  ·exact sY lg hi' h
theorem sX {base:Int} {os:List ObjD} (lg:Lg base os) (k:List UInt8):0≤(nL base os k).getD 0∧(nL base os k).getD 0≤2^32:=by
 unfold nL
 cases h1:rN base os k false 0 os with
 | some a=>exact sY lg (by simp) h1
 | none =>
  cases h2:rN base os k true 0 os with
  | some a=>exact sY lg (by simp) h2
  | none=>simp
theorem yi {base:Int} {os:List ObjD} (lg:Lg base os) {i:Nat} (hi:i<os.length) {k:List UInt8} (hk:fg k os[i].ce=true):0≤(nH base os i os[i] k).getD 0∧(nH base os i os[i] k).getD 0≤2^32:=by
 unfold nH
 by_cases hg:(eD k os[i].ce).cn=true
 ·rw [if_pos hg];exact sX lg k
 ·rw [if_neg hg];have gd:=lg.good _ (aP hi);have gm:=(ng hk).1;have so:=gd.ce _ gm;have so2:=so.s2;have so5:=so.s0;have so3:=gd.off gm;have so4:=so.o0;have so6:=(so.gl (by simpa using hg)).1;have hst:=tu lg (sec:=(eD k os[i].ce).sec.toNat) (i:=i) (by omega) (by omega) hi;have b0:=lg.base.pos;have b1:=lg.base.most;simp only [Option.getD_some];omega
theorem A7 {cb:Int} {k:List UInt8}:∀{N:List (List UInt8)} {j:Nat},k∈N→∃q,q<N.length∧mO cb k j N=cb+8 * ((j+q:Nat):Int)
 | [],j,h=>by cases h
 | s::r,j,h=>by
  by_cases e:s=k
  ·exact ⟨0,by simp,by simp [mO,e]⟩
  ·have hk:k∈r:=by
    rcases aW.1 h with q|q
    ·exact absurd q.symm e
    ·exact q
   obtain ⟨q,q1,q2⟩:=A7 (cb:=cb) (j:=j+1) hk;refine ⟨q+1,by simpa using q1,?_⟩;rw [mO,if_neg e,q2]
   congr 2
   omega
theorem wh {cb:Int} (h:0≤cb) {k:List UInt8}:∀{N:List (List UInt8)} {j:Nat},0≤mO cb k j N∧mO cb k j N≤cb+8 * ((j+N.length:Nat):Int)
 | [],j=>by simp [mO];omega
 | s::r,j=>by
  have ih:=wh h (k:=k) (N:=r) (j:=j+1);simp only [mO,aO]
  split<;>omega
theorem pT:∀{os:List ObjD} {i:Nat},eB i os=.ok ()→∀o∈os,tS o=0
 | [],i,_,o,ho=>by cases ho
 | x::r,i,h,o,ho=>by
  simp only [eB] at h
  split at h
  ·rename_i q
   rcases aW.1 ho with rfl|ho
   ·unfold ig at q;exact (p5 (p5 (p5 (p5 (p5 q).2).2).2).2).2
   ·exact pT h o ho
  ·cases h
theorem Gv {base:Int} {os:List ObjD} {u:Unit} (h:rfP base os=.ok u):eB 0 os=.ok ():=by
 unfold rfP at h
 cases hc:eB 0 os with
 | ok x=>rfl
 | error f=>rw [hc] at h;cases h
theorem Id {base:Int} {os:List ObjD} {u:Unit} (h:rfP base os=.ok u):oW os≤131072:=by
 unfold rfP at h
 split at h
 ·cases h
 ·split at h
  ·cases h
  ·split at h
   ·cases h
   ·split at h
    ·cases h
    ·omega
theorem vj:∀{os:List ObjD} {i:Nat} {f:Int×Int},eB i os=.error f→f.2≠0
 | [],i,f,h=>by simp [eB] at h
 | x::r,i,f,h=>by
  simp only [eB] at h
  split at h
  ·exact vj h
  ·rename_i q;injection h with h;subst h;exact q
theorem HP {i:Nat} {ps:List ObjD}:∀{L:List SymD} {f:Int×Int},twS i ps L=.error f→f.2≠0
 | [],f,h=>by simp [twS] at h
 | x::r,f,h=>by
  simp only [twS] at h
  split at h
  ·injection h with h;subst h;simp
  ·exact HP h
theorem HQ {os:List ObjD}:∀{r:List ObjD} {i:Nat} {f:Int×Int},twL os i r=.error f→f.2≠0
 | [],i,f,h=>by simp [twL] at h
 | x::r,i,f,h=>by
  simp only [twL] at h
  split at h
  ·rename_i q;injection h with h;subst h;exact HP q
  ·exact HQ h
theorem H6 {base:Int} {os:List ObjD} {i:Nat} {o:ObjD}:∀{L:List RelD} {f:Int×Int},rsR base os i o L=.error f→f.2≠0
 | [],f,h=>by simp [rsR] at h
 | x::r,f,h=>by
  simp only [rsR] at h
  split at h
  ·injection h with h;subst h;simp
  ·exact H6 h
theorem H7 {base:Int} {os:List ObjD}:∀{r:List ObjD} {i:Nat} {f:Int×Int},rsL base os i r=.error f→f.2≠0
 | [],i,f,h=>by simp [rsL] at h
 | x::r,i,f,h=>by
  simp only [rsL] at h
  split at h
  ·rename_i q;injection h with h;subst h;exact H6 q
  ·exact H7 h
theorem Ie {base:Int} {os:List ObjD} {f:Int×Int} (h:rfP base os=.error f):¬f.2=0:=by
 unfold rfP at h
 split at h
 ·rename_i q;injection h with h;subst h;exact vj q
 ·split at h
  ·rename_i q;injection h with h;subst h;exact HQ q
  ·split at h
   ·rename_i q;injection h with h;subst h;exact H7 q
   ·split at h
    ·injection h with h;subst h;simp
    ·cases h
theorem uf {base code:Int} {os:List ObjD} {f:Int×Int}:∀{r:List ObjD} {i:Nat} {e:Int},nW base code os i r e=.error f→¬f.2=0
 | [],i,e,h=>by cases h
 | o::r,i,e,h=>by
  simp only [nW] at h
  split at h
  ·split at h
   ·injection h with h;subst h;simp
   ·exact uf h
  ·exact uf h
theorem Fe {o:ObjD} (h:tS o=0) (hn:o.entry≠[]):fg o.entry o.ce=true∧(eD o.entry o.ce).sec≠0∧(eD o.entry o.ce).cn=true:=by
 rw [Cm] at h
 split at h
 ·cases h
 ·rename_i q
  refine ⟨?_,?_,?_⟩
  ·cases hq:fg o.entry o.ce with
   | true=>rfl
   | false=>exact absurd ⟨hn,.inl hq⟩ q
  ·exact fun e=>q ⟨hn,.inr (.inl e)⟩
  ·cases hq:(eD o.entry o.ce).cn with
   | true=>rfl
   | false=>exact absurd ⟨hn,.inr (.inr hq)⟩ q
theorem ma:dY (E g) 60 []=some (.agg kY):=by
 simp only [dY,gY,cW,List.all_cons,List.all_nil,ty2,cM,dC,dp,cD,bF,Bool.and_true,aV,cond_false]
 rfl
theorem Ax {base code:Int} {bb n:Nat}:dY (E g) 60 [(0,.int .i64 base),(1,.slice bb 0 n (.lit n)),(2,.int .i64 code)]=some (.agg (imV base bb n code 0 .nils .nils .nils)):=by
 simp only [dY,gY,cW,nth,cL ty2,cL cM,List.all_cons,List.all_nil,ty2,cM,dC,dp,cD,bF,Bool.and_true,aV,cond_false]
 rfl
theorem bld125 {ls:V} {base:Int} (h1:ls.cells=[ls]):dY (E g) 125 [(0,ls),(1,.int .i64 base)]=some (.agg (rkV ls base .nils 0 0 .nils 0)):=by
 simp only [dY,uN,cW,nth,cL gM,cL ty2,h1,List.all_cons,List.all_nil,gM,ty2,eK,cD,bF,Bool.and_true,aV,cond_false]
 rfl
theorem bld135 {n:List UInt8} {a:Int}:dY (E g) 135 [(0,.str n),(1,.int .i64 a)]=some (.agg (nk ⟨n,a⟩)):=by
 simp only [dY,nN,cW,nth,cL ty9,cL ty2,List.all_cons,List.all_nil,ty9,ty2,bF,Bool.and_true,aV,cond_false]
 rfl
theorem bld136 {n:List UInt8} {a b:Int}:dY (E g) 136 [(0,.str n),(1,.int .i64 a),(2,.int .i64 b)]=some (.agg (fU ⟨n,a,b⟩)):=by
 simp only [dY,kZ,cW,nth,cL ty9,cL ty2,List.all_cons,List.all_nil,ty9,ty2,bF,Bool.and_true,aV,cond_false]
 rfl
end Go.Proofs.OP
