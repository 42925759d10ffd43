/- Walks: images; fewImage. -/
import Derived.Test.YtloblhhnlaaajaaDoorY26
set_option maxHeartbeats 4000000
set_option maxRecDepth 100000
set_option linter.unusedVariables false
set_option linter.unusedSimpArgs false
set_option linter.defProp false
namespace Go.Proofs.OP
open Go Go.Ev
open Go.Proofs
open Nat renaming reduceLT → rL, reduceEqDiff → rD, reduceBEq → rB
variable {g : T (List V)}
structure ExpD where
 name:List UInt8
 cl:Int
structure SlotD where
 name:List UInt8
 cl:Int
 bound:Int
structure ImgD where
 base:Int
 bytes:List UInt8
 code:Int
 entry:Int
 cg:List ExpD
 cb:List SlotD
 cf:List (List UInt8)
def nk (s:ExpD):List V:=[.str s.name,i64 s.cl]
def fU (s:SlotD):List V:=[.str s.name,i64 s.cl,i64 s.bound]
abbrev Xs (g:T (List V)) (h:H) (s:V) (L:List ExpD):Prop:=Rcs (E g) h 2 nk s L
abbrev Bi (g:T (List V)) (h:H) (s:V) (L:List SlotD):Prop:=Rcs (E g) h 3 fU s L
structure Ic where
 bytes:V
 cg:V
 cb:V
 cf:V
def Ic.cells (c:Ic) (x:ImgD):List V:=[i64 x.base,c.bytes,i64 x.code,i64 x.entry,c.cg,c.cb,c.cf]
structure Im (g:T (List V)) (h:H) (K:Nat→Prop) (c:Ic) (x:ImgD):Prop where
 bytes:Bs g h c.bytes x.bytes
 cg:Xs g h c.cg x.cg
 cb:Bi g h c.cb x.cb
 cf:Ss g h c.cf x.cf
 inB:In K c.bytes
 inX:In K c.cg
 inS:In K c.cb
 inN:In K c.cf
theorem Im.fix {h h':H} {K K':Nat→Prop} {c:Ic} {x:ImgD} (a:Im g h K c x) (f:Fix K' h h') (hs:∀b,K b→K' b:=by (intro b hb;omega)):Im g h' K c x :=
 ⟨Sl.fix a.bytes (a.inB.sub hs) f,Sl.fix a.cg (a.inX.sub hs) f,Sl.fix a.cb (a.inS.sub hs) f,Sl.fix a.cf (a.inN.sub hs) f,a.inB,a.inX,a.inS,a.inN⟩
theorem Im.up {h:H} {K K':Nat→Prop} {c:Ic} {x:ImgD} (a:Im g h K c x) (hs:∀b,K b→K' b:=by (intro b hb;omega)):Im g h K' c x :=
 ⟨a.bytes,a.cg,a.cb,a.cf,a.inB.sub hs,a.inX.sub hs,a.inS.sub hs,a.inN.sub hs⟩
structure FitsI (x:ImgD):Prop where
 bytes:x.bytes.length<2^34
 cg:x.cg.length<2^34
 cb:x.cb.length<2^34
 cf:x.cf.length<2^34
theorem fill2 {a b:V} {cs:List V} (h:cs.length=2):cW (fun k=>some (k * 2,2)) (j8 [a,b] 1) [(0,.agg cs)]=some cs:=by
 match cs,h with
 | [_,_],_=>rfl
theorem fill3 {a b c:V} {cs:List V} (h:cs.length=3):cW (fun k=>some (k * 3,3)) (j8 [a,b,c] 1) [(0,.agg cs)]=some cs:=by
 match cs,h with
 | [_,_,_],_=>rfl
theorem lj (x:ExpD):(nk x).length=2:=rfl
theorem iE (x:SlotD):(fU x).length=3:=rfl
theorem Ci (x:ExpD):(nk x).all V.one=true:=rfl
theorem ub (x:SlotD):(fU x).all V.one=true:=rfl
theorem GH {cs ys:List V} {l:Nat} {c:V} (h:l+ys.length<cs.length):o5 (o5 cs l ys) (l+ys.length) [c]=o5 cs l (ys++[c]):=by
 apply List.ext_getElem?;intro j;rw [mR (by rw [fO (by omega)];simp;omega),mR (by omega),mR (by simp;omega)];simp only [aO,bD,aQ]
 by_cases h1:l≤j∧j<l+ys.length
 ·rw [if_neg (by omega),if_pos h1,if_pos (by omega),List.getElem?_append_left (by omega)]
 ·by_cases h2:j=l+ys.length
  ·subst h2;rw [if_pos (by omega),if_pos (by omega),List.getElem?_append_right (by omega)];simp
  ·rw [if_neg (by omega),if_neg h1,if_neg (by omega)]
def er (xs:List UInt8) (l:Nat) (ys:List UInt8):List UInt8:=xs.take l++ys++xs.drop (l+ys.length)
theorem pH (xs:List UInt8) (l:Nat) (ys:List UInt8):(er xs l ys).map u8=o5 (xs.map u8) l (ys.map u8):=by
 simp [er,o5,List.map_take,List.map_drop]
theorem dP {xs:List UInt8} {l:Nat} {ys:List UInt8} (h:l+ys.length≤xs.length):(er xs l ys).length=xs.length:=by
 have:=fO (cs:=xs.map u8) (vs:=ys.map u8) (o:=l) (by simpa using h);rw [←pH] at this;simpa using this
theorem ef {t e b o n k:Nat} {c:Cp} {i ei:TI} {ik:IntKind} (ht:(E g).tys.get t=some i) (hd:i.desc=.slice e) (he:(E g).tys.get e=some ei) (hk:k<n):cK (E g) t (.slice b o n c) (.int ik k)=some (.ptr b (o+k * ei.size)):=by
 have h1:Nat.blt k n=true:=gF hk;simp only [cK,ht,fW,hd,h1,cond_true,cL he,bo]
theorem Fs {h:H} {b l n' n k:Nat} {c':Cp} {xs:List UInt8} (a:At h b 0 (xs.map u8)) (hl:l+k≤xs.length) (hk:k≤8) (hn':k≤n') (hn:n<2^64) :
  WF (E g) 114 [.slice b l n' c',.int .u64 n,.int .i64 k] h fun _ h'=>At h' b 0 ((er xs l (leB n k)).map u8)∧h'.bX=h.bX∧Fix (·≠b) h h':=by
 refine WF.enter fn114 rfl ?_;refine au ?_;refine ao ?_
 refine WC.while (fun m fr hh=>∃ts i,fr=⟨ts,19,[],114,none⟩∧At hh b 0 ((er xs l (leB n i)).map u8)∧hh.bX=h.bX∧Fix (·≠b) h hh∧m=k - i∧i≤k∧ts.get 0=some (.slice b l n' c')∧ts.get 1=some (.int .u64 (n / 256^i:Nat))∧ts.get 7=some (.int .i64 k)∧ts.get 8=some (.int .i64 i)) ?_ ⟨_,0,rfl,by simpa [leB,er] using a,rfl,Fix.refl _ _,rfl,by omega,?_,?_,?_,?_⟩
 ·rintro m fr hh ⟨ts,i,rfl,aa,hn1,ff,rfl,hi,t0,t1,t7,t8⟩
  refine ap ?_;(try simp only [aE,rL,rD,rB,reduceIte,t7,t8]);refine aw ?_
  by_cases hlt:i<k
  ·refine aG (WC.skip ?_);refine az ?_;refine ao ?_;refine ap ?_;(try simp only [aE,rL,rD,rB,reduceIte,t8]);refine ap ?_;(try simp only [aE,rL,rD,rB,reduceIte,t0,t1,ft rP ty5 rfl,sg,vR,ef cM rfl ty5 (show i<n' by omega),bL]);have aa':=aa;rw [pH] at aa';have hlen:=fO (cs:=xs.map u8) (vs:=(leB n i).map u8) (o:=l) (by simp [dw];omega);rw [show l+i=0+(l+i) by omega];refine CT aa' (p:=l+i) ty5 rfl (by rw [hlen];simp;omega) rfl (by decide) ?_
   intro h2 a2 n2 f2
   have a2:At h2 b 0 ((er xs l (leB n (i+1))).map u8):=by
    rw [pH,tL,List.map_append];have:=GH (cs:=xs.map u8) (ys:=(leB n i).map u8) (l:=l) (c:=u8 (UInt8.ofNat (n / 256^i))) (by simp [dw];omega);rw [bI,List.map_nil,←this];rw [bO,dw];exact a2
   refine ax ?_;(try simp only [aE,rL,rD,rB,reduceIte,t1,Fu (show (0:Int)≤8 by decide)]);refine ap ?_;(try simp only [aE,rL,rD,rB,reduceIte,t8,ct])
   refine ⟨_,?_,_,i+1,rfl,a2,by omega,⟨by omega,fun c hc=>by rw [f2.ca c hc,ff.ca c hc]⟩,rfl,by omega,?_⟩
   ·omega
   (try simp only [aE,rL,rD,rB,reduceIte,t0,t7])
   refine ⟨aD,?_,aD,?_⟩
   ·have e:(((n / 256^i:Nat):Int).fdiv (2^(min (8:Int).toNat IntKind.u64.bits)))=((n / 256^(i+1):Nat):Int):=by
     have:((2:Int)^(min (8:Int).toNat IntKind.u64.bits))=((256:Nat):Int):=by decide
     rw [this,Cg,Nat.pow_succ,Nat.div_div_eq_div_mul]
    rw [e]
   ·rw [cy (by omega) (by omega)];rfl
  ·refine aF (WC.exit ?_);have:i=k:=by omega
   subst this;refine az ?_;exact ⟨aa,hn1,ff⟩
 all_goals (try simp only [aE,rL,rD,rB,reduceIte])
 all_goals simp
theorem Ip {h:H} {b l n' n:Nat} {c':Cp} {xs:List UInt8} (a:At h b 0 (xs.map u8)) (hb:b<h.bX) (hl:l+8≤xs.length) (hn':8≤n') (hn:n<2^64) :
  WF (E g) 116 [.agg [],.slice b l n' c',.int .u64 n] h fun _ h'=>At h' b 0 ((er xs l (leB n 8)).map u8)∧Fix (fun c=>c<h.bX∧c≠b) h h':=by
 refine WF.enter fn116 rfl ?_;refine au ?_;refine eI (v:=.agg []) (by (try simp only [aE,rL,rD,rB,reduceIte])) ?_;intro h1 b1 n1 f1;refine ay ?_;refine (Fs (k:=8) (a.fix f1 hb) hl (by omega) hn' hn).mono fun v h2 ⟨a2,n2,f2⟩=>?_;refine az ?_;exact ⟨a2,⟨by omega,fun c hc=>by rw [f2.ca c hc.2,f1.ca c hc.1]⟩⟩
def cG (p:Int×Int):List V:=[i64 p.1,i64 p.2]
theorem vK {a b:Int}:dY (E g) 35 [(0,.int .i64 a),(1,.int .i64 b)]=some (.agg [.int .i64 a,.int .i64 b]):=by
 simp only [dY,cP,cW,nth,cL ty3,cL mG,List.all_cons,List.all_nil,ty3,mG,bF,Bool.and_true,aV,cond_false]
 rfl
theorem lC {h:H} {a b:Int}:WF (E g) 30 [.int .i64 a,.int .i64 b] h fun v h'=>v=.agg (cG (a,b))∧cH h h':=by
 refine WF.enter fn30 rfl ?_;refine au ?_;refine cz cP ?_;intro h1 b1 n1 f1;refine ax ?_;(try simp only [aE,rL,rD,rB,reduceIte,vK]);refine cq b1 cP rfl (aI 2) rfl ?_;intro h2 b2 n2 f2;have l2:cx (E g) h2 35 (.ptr h.bX 0)=some (.agg (cG (a,b))):=b2.agg cP rfl (aI 2);refine az ?_;refine WC.ret ?_;(try simp only [aE,rL,rD,rB,reduceIte,l2]);exact ⟨by trivial,⟨by omega,fun c hc=>by rw [f2.ca c (by omega),f1.ca c hc]⟩⟩
end Go.Proofs.OP
namespace Go.Proofs.OP
open Go Go.Ev
def Ix:List (List Stp):=[[⟨0,false,false,[]⟩,⟨1,false,false,[]⟩,⟨2,false,false,[]⟩,⟨3,false,true,[]⟩,⟨4,false,true,[]⟩,⟨5,false,false,[]⟩,⟨6,false,false,[]⟩,⟨7,false,false,[]⟩,⟨8,false,false,[]⟩,⟨9,false,true,[]⟩,⟨10,false,false,[]⟩,⟨11,false,false,[]⟩,⟨12,false,false,[]⟩,⟨13,false,true,[]⟩,⟨14,false,true,[]⟩,⟨15,false,false,[]⟩,⟨16,false,false,[]⟩,⟨17,false,false,[]⟩,⟨18,false,false,[]⟩,⟨19,false,true,[]⟩,⟨20,false,false,[]⟩,⟨21,false,false,[]⟩,⟨22,false,false,[]⟩,⟨23,false,true,[]⟩,⟨24,false,false,[]⟩,⟨25,false,false,[]⟩,⟨26,false,false,[]⟩,⟨27,false,true,[]⟩,⟨28,false,true,[]⟩,⟨29,false,true,[]⟩,⟨30,false,false,[]⟩,⟨31,false,false,[]⟩,⟨32,false,false,[]⟩,⟨33,false,false,[]⟩,⟨34,false,false,[]⟩,⟨35,false,false,[]⟩,⟨36,false,true,[]⟩,⟨37,false,true,[]⟩,⟨38,false,true,[]⟩,⟨39,false,false,[]⟩]]
def Ej:List (List Stp):=[[⟨0,false,false,[]⟩,⟨1,false,true,[]⟩,⟨2,false,false,[]⟩,⟨3,false,false,[]⟩,⟨4,false,false,[]⟩,⟨5,false,true,[]⟩,⟨6,false,true,[]⟩,⟨7,false,false,[]⟩,⟨8,false,false,[]⟩,⟨9,false,true,[]⟩,⟨10,false,false,[]⟩,⟨11,false,false,[]⟩,⟨12,false,false,[]⟩,⟨13,false,true,[]⟩,⟨14,false,false,[]⟩,⟨15,false,true,[]⟩,⟨16,false,true,[]⟩,⟨17,false,false,[]⟩]]
def Ei:List (List Stp):=[[⟨0,false,false,[]⟩,⟨1,false,true,[]⟩,⟨2,false,false,[]⟩,⟨3,false,false,[]⟩,⟨4,false,false,[]⟩,⟨5,false,true,[]⟩,⟨6,false,true,[]⟩,⟨7,false,false,[]⟩,⟨8,false,false,[]⟩,⟨9,false,true,[]⟩,⟨10,false,false,[]⟩,⟨11,false,false,[]⟩,⟨12,false,false,[]⟩,⟨13,false,true,[]⟩,⟨14,false,false,[]⟩,⟨15,false,true,[]⟩,⟨16,false,true,[]⟩,⟨17,false,true,[]⟩,⟨18,false,false,[]⟩,⟨19,false,false,[]⟩,⟨20,false,false,[]⟩,⟨21,false,true,[]⟩,⟨22,false,true,[]⟩,⟨23,false,true,[]⟩,⟨24,false,false,[]⟩,⟨25,false,false,[]⟩,⟨26,false,false,[]⟩,⟨27,false,true,[]⟩,⟨28,false,true,[]⟩,⟨29,false,false,[]⟩,⟨30,false,false,[]⟩,⟨31,false,false,[]⟩,⟨32,false,true,[]⟩,⟨33,false,true,[]⟩,⟨34,false,false,[]⟩,⟨35,false,false,[]⟩,⟨36,false,false,[]⟩,⟨37,false,false,[]⟩,⟨38,false,true,[]⟩,⟨39,false,true,[]⟩,⟨40,false,false,[]⟩]]
def Iu:List (List Stp):=[[⟨0,false,false,[]⟩,⟨1,false,true,[]⟩,⟨2,true,false,[]⟩,⟨3,false,true,[]⟩,⟨4,false,false,[]⟩,⟨5,false,false,[]⟩,⟨6,false,true,[]⟩,⟨7,false,false,[]⟩,⟨8,false,false,[]⟩,⟨9,false,true,[]⟩,⟨10,false,false,[]⟩,⟨11,false,true,[]⟩,⟨12,false,false,[]⟩,⟨13,false,true,[]⟩,⟨14,false,false,[]⟩,⟨15,false,false,[]⟩,⟨16,false,true,[]⟩,⟨17,false,true,[]⟩,⟨18,false,false,[]⟩,⟨19,false,false,[]⟩,⟨20,false,false,[]⟩,⟨21,false,false,[]⟩,⟨22,false,true,[]⟩,⟨23,false,false,[]⟩,⟨24,false,true,[]⟩,⟨25,false,true,[]⟩,⟨26,false,false,[]⟩,⟨27,false,false,[]⟩,⟨28,false,false,[]⟩,⟨29,false,true,[]⟩,⟨30,false,false,[]⟩,⟨31,false,true,[]⟩,⟨32,false,false,[]⟩,⟨33,false,true,[]⟩,⟨34,false,true,[]⟩,⟨35,false,false,[]⟩]]
def Eh:List (List Stp):=[[⟨0,false,false,[]⟩,⟨1,false,true,[]⟩,⟨2,true,false,[]⟩,⟨3,false,true,[]⟩,⟨4,false,false,[]⟩,⟨5,false,false,[]⟩,⟨6,false,true,[]⟩,⟨7,false,false,[]⟩,⟨8,false,false,[]⟩,⟨9,false,true,[]⟩,⟨10,false,false,[]⟩,⟨11,false,true,[]⟩,⟨12,false,false,[]⟩,⟨13,false,true,[]⟩,⟨14,false,false,[]⟩,⟨15,false,false,[]⟩,⟨16,false,true,[]⟩,⟨17,false,true,[]⟩,⟨18,false,false,[]⟩,⟨19,false,false,[]⟩,⟨20,false,false,[]⟩,⟨21,false,false,[]⟩,⟨22,false,true,[]⟩,⟨23,false,false,[]⟩,⟨24,false,true,[]⟩,⟨25,false,true,[]⟩,⟨26,false,false,[]⟩,⟨27,false,false,[]⟩,⟨28,false,false,[]⟩,⟨29,false,true,[]⟩,⟨30,false,false,[]⟩,⟨31,false,true,[]⟩,⟨32,false,false,[]⟩,⟨33,false,true,[]⟩,⟨34,false,true,[]⟩,⟨35,false,true,[]⟩,⟨36,false,false,[]⟩,⟨37,false,false,[]⟩,⟨38,false,false,[]⟩,⟨39,false,true,[]⟩,⟨40,false,true,[]⟩,⟨41,false,true,[]⟩,⟨42,false,false,[]⟩,⟨43,false,false,[]⟩,⟨44,false,false,[]⟩,⟨45,false,true,[]⟩,⟨46,false,true,[]⟩,⟨47,false,false,[]⟩,⟨48,false,false,[]⟩,⟨49,false,false,[]⟩,⟨50,false,true,[]⟩,⟨51,false,true,[]⟩,⟨52,false,false,[]⟩]]
def Eg:List (List Stp):=[[⟨0,false,false,[]⟩,⟨1,false,true,[]⟩,⟨2,false,false,[]⟩,⟨3,false,false,[]⟩,⟨4,false,false,[]⟩,⟨5,false,true,[]⟩,⟨6,false,false,[]⟩,⟨7,false,true,[]⟩,⟨8,false,true,[]⟩]]
def Iq:List (List Stp):=[[⟨1,false,false,[]⟩,⟨2,false,false,[]⟩,⟨3,false,false,[]⟩,⟨4,false,true,[]⟩,⟨5,false,false,[]⟩,⟨6,false,true,[]⟩,⟨7,false,false,[]⟩,⟨8,false,false,[]⟩,⟨9,false,false,[]⟩,⟨10,false,true,[]⟩,⟨11,false,true,[]⟩,⟨12,false,false,[]⟩,⟨13,false,false,[]⟩,⟨14,false,true,[]⟩,⟨15,false,true,[]⟩,⟨0,true,false,[15,14,11,10,6,4]⟩,⟨16,true,false,[]⟩]]
end Go.Proofs.OP
namespace Go.Proofs.OP
open Go Go.Ev
open Go.Proofs
open Nat renaming reduceLT → rL, reduceEqDiff → rD, reduceBEq → rB
variable {g : T (List V)}
theorem _root_.Go.Ev.At.part0 {h:H} {b:Nat} {vs:List V} (a:At h b 0 vs) {p q:Nat} (hq:p+q≤vs.length):At h b p ((vs.drop p).take q):=by
 have:=a.part hq;rwa [aH] at this
structure IM (g:T (List V)) (h:H) (lo hi:Nat) (tag:Nat→Nat) (i:Nat) (c:Ic) (x:ImgD):Prop where
 im:Im g h (·<hi) c x
 bw:Whole c.bytes x.bytes.length
 sw:Whole c.cb x.cb.length
 bt:In (fun b=>lo≤b∧tag b=2 * i+3) c.bytes
 st:In (fun b=>lo≤b∧tag b=2 * i+4) c.cb
 et:In (fun b=>tag b=0) c.cg
 nt:In (fun b=>tag b=0) c.cf
def eF (cs:List Ic) (xs:List ImgD):List V:=(cs.zip xs).flatMap fun p=>p.1.cells p.2
structure PM (g:T (List V)) (h:H) (lo hi pb sb:Nat) (sc:Cp) (tag:Nat→Nat) (cs:List Ic) (xs:List ImgD):Prop where
 len:cs.length=xs.length
 pos:0<xs.length
 has:Has h pb [.slice sb 0 xs.length sc]
 pbt:lo≤pb∧pb<hi∧tag pb=1
 sbt:lo≤sb∧sb<hi∧tag sb=2
 scw:sc=.lit xs.length∨sc=.opn 0 0
 his:hi≤h.bX
 blk:At h sb 0 (eF cs xs)
 im:∀i c x,cs[i]?=some c→xs[i]?=some x→IM g h lo hi tag i c x
theorem p8 {cs:List Ic} {xs:List ImgD} (h:cs.length=xs.length):(eF cs xs).length=xs.length * 7:=by
 unfold eF;rw [lP (sz:=7) (fun p=>rfl),List.length_zip,h,Nat.min_self]
theorem Ca {cs:List Ic} {xs:List ImgD} {i:Nat} {c:Ic} {x:ImgD} (hc:cs[i]?=some c) (hx:xs[i]?=some x):((eF cs xs).drop (i * 7)).take 7=c.cells x:=by
 obtain ⟨h1,h1'⟩:=List.getElem?_eq_some_iff.1 hc;obtain ⟨h2,h2'⟩:=List.getElem?_eq_some_iff.1 hx;unfold eF;rw [qK (sz:=7) (fun p=>rfl) (k:=i) (by rw [List.length_zip];omega),List.getElem_zip,h1',h2']
theorem Ic.ext_cells {c:Ic} {x y:ImgD} (h1:x.base=y.base) (h2:x.code=y.code) (h3:x.entry=y.entry):c.cells x=c.cells y:=by
 unfold Ic.cells;rw [h1,h2,h3]
section
variable {h h' : H} {lo hi pb sb : Nat} {sc : Cp} {tag : Nat → Nat} {cs : List Ic} {xs : List ImgD}
theorem IM.fix {i:Nat} {c:Ic} {x:ImgD} (a:IM g h lo hi tag i c x) (f:Fix (·<hi) h h'):IM g h' lo hi tag i c x :=
 ⟨a.im.fix f fun _ h=>h,a.bw,a.sw,a.bt,a.st,a.et,a.nt⟩
theorem PM.fix (a:PM g h lo hi pb sb sc tag cs xs) (f:Fix (·<hi) h h'):PM g h' lo hi pb sb sc tag cs xs :=
 ⟨a.len,a.pos,a.has.fix f a.pbt.2.1,a.pbt,a.sbt,a.scw,Nat.le_trans a.his f.bX,a.blk.fix f a.sbt.2.1,fun i c x h1 h2=>(a.im i c x h1 h2).fix f⟩
theorem PM.kept (a:PM g h lo hi pb sb sc tag cs xs) (f:cH h h'):PM g h' lo hi pb sb sc tag cs xs:=a.fix (f.sub fun b hb=>Nat.lt_of_lt_of_le hb a.his)
theorem PM.cell (a:PM g h lo hi pb sb sc tag cs xs) {i:Nat} {c:Ic} {x:ImgD} (hc:cs[i]?=some c) (hx:xs[i]?=some x):At h sb (i * 7) [i64 x.base,c.bytes,i64 x.code,i64 x.entry,c.cg,c.cb,c.cf]:=by
 obtain ⟨h2,_⟩:=List.getElem?_eq_some_iff.1 hx;have:=a.blk.part0 (p:=i * 7) (q:=7) (by rw [p8 a.len];omega);rw [Ca hc hx] at this;exact this
theorem PM.sl (a:PM g h lo hi pb sb sc tag cs xs):Sl (E g) h 7 (.slice sb 0 xs.length sc) xs.length (eF cs xs):=a.blk.slice (p8 a.len) (Whole.cap a.scw)
end
def setS (s:SlotD) (a:Int):SlotD:=⟨s.name,s.cl,a⟩
def ow (x:ImgD) (k:Nat) (a:Int):ImgD:=match x.cb[k]? with
 | none=>x
 | some s=>{x with cb:=x.cb.set k (setS s a),bytes:=er x.bytes (s.cl - x.base).toNat (leB (U a) 8)}
def setB (xs:List ImgD) (i k:Nat) (a:Int):List ImgD:=match xs[i]? with
 | none=>xs
 | some x=>xs.set i (ow x k a)
theorem nR (xs:List ImgD) (i k:Nat) (a:Int):(setB xs i k a).length=xs.length:=by
 unfold setB;split
 ·rfl
 ·simp
theorem Aj {cs:List Ic} {xs:List ImgD} {i:Nat} {y:ImgD} (h:∀x,xs[i]?=some x→y.base=x.base∧y.code=x.code∧y.entry=x.entry):eF cs (xs.set i y)=eF cs xs:=by
 unfold eF
 induction cs generalizing xs i with
 | nil=>simp
 | cons c cs ih =>
  cases xs with
  | nil=>simp
  | cons x xs =>
   cases i with
   | zero =>
    obtain ⟨e1,e2,e3⟩:=h x rfl;simp only [List.set_cons_zero,List.zip_cons_cons,bM,Ic.ext_cells e1 e2 e3]
   | succ i =>
    simp only [List.set_cons_succ,List.zip_cons_cons,bM];rw [ih (fun x hx=>h x (by simpa using hx))]
theorem PM.set {h h':H} {lo hi pb sb:Nat} {sc:Cp} {tag:Nat→Nat} {cs:List Ic} {xs:List ImgD} (a:PM g h lo hi pb sb sc tag cs xs) {i k:Nat} {c:Ic} {x:ImgD} {ad:Int} (hc:cs[i]?=some c) (hx:xs[i]?=some x) (hk:k<x.cb.length)
  {sk bk:Nat} {sn bn:Cp} (es:c.cb=.slice sk 0 x.cb.length sn) (eb:c.bytes=.slice bk 0 x.bytes.length bn) (f:Fix (fun b=>b<h.bX∧b≠sk∧b≠bk) h h')
  (sa:At h' sk 0 ((x.cb.set k (setS x.cb[k] ad)).flatMap fU)) (ba:At h' bk 0 ((er x.bytes (x.cb[k].cl - x.base).toNat (leB (U ad) 8)).map u8)) (hl:(x.cb[k].cl - x.base).toNat+8≤x.bytes.length) :
  PM g h' lo hi pb sb sc tag cs (setB xs i k ad):=by
 have hh:=a.his;have mi:=a.im i c x hc hx;obtain ⟨s1,s2⟩:=mi.st _ _ _ _ es;obtain ⟨b1,b2⟩:=mi.bt _ _ _ _ eb;have hset:setB xs i k ad=xs.set i (ow x k ad):=by unfold setB;rw [hx]
 have hb:ow x k ad={x with cb:=x.cb.set k (setS x.cb[k] ad),bytes:=er x.bytes (x.cb[k].cl - x.base).toNat (leB (U ad) 8)}:=by
  unfold ow;rw [List.getElem?_eq_getElem hk]
 have hbl:(ow x k ad).bytes.length=x.bytes.length:=by rw [hb];exact dP (by rw [dw];exact hl)
 have hsl:(ow x k ad).cb.length=x.cb.length:=by rw [hb];simp
 have hcells:eF cs (setB xs i k ad)=eF cs xs:=by
  rw [hset];refine Aj fun z hz=>?_;rw [hx] at hz;injection hz with hz;subst hz;rw [hb];exact ⟨rfl,rfl,rfl⟩
 have n1:=a.pbt;have n2:=a.sbt;have ntg:∀b,tag b≠2 * i+4→tag b≠2 * i+3→b<hi→(b<h.bX∧b≠sk∧b≠bk):=fun b h1 h2 h3=>⟨by omega,fun e=>h1 (e ▸ s2),fun e=>h2 (e ▸ b2)⟩
 refine ⟨by rw [nR];exact a.len,by rw [nR];exact a.pos,?_,a.pbt,a.sbt,by rw [nR];exact a.scw,Nat.le_trans hh f.bX,?_,?_⟩
 ·rw [nR];exact a.has.fix f (ntg _ (by omega) (by omega) n1.2.1)
 ·rw [hcells];exact a.blk.fix f (ntg _ (by omega) (by omega) n2.2.1)
 ·intro j cj xj hcj hxj;rw [hset] at hxj
  by_cases hji:j=i
  ·subst hji;rw [hc] at hcj;injection hcj with hcj;subst hcj;obtain ⟨hlt,_⟩:=List.getElem?_eq_some_iff.1 hx;rw [List.getElem?_set_self hlt] at hxj;injection hxj with hxj;subst hxj
   have q1:Bs g h' c.bytes (ow x k ad).bytes:=by
    rw [eb]
    have:=ba.slice (E:=E g) (sz:=1) (n:=x.bytes.length) (cc:=bn) (by rw [bO,dP (by rw [dw];exact hl),bL]) (by
     rcases mi.bw with q|⟨_,_,q,q'⟩
     ·rw [eb] at q;cases q
     ·rw [eb] at q;injection q with _ _ _ q;subst q;exact Whole.cap q')
    show Sl (E g) h' 1 _ (ow x k ad).bytes.length _;rw [hbl,hb];exact this
   have q2:Bi g h' c.cb (ow x k ad).cb:=by
    rw [es]
    have:=sa.slice (E:=E g) (sz:=3) (n:=x.cb.length) (cc:=sn) (by rw [lP iE,List.length_set]) (by
     rcases mi.sw with q|⟨_,_,q,q'⟩
     ·rw [es] at q;cases q
     ·rw [es] at q;injection q with _ _ _ q;subst q;exact Whole.cap q')
    show Sl (E g) h' 3 _ (ow x k ad).cb.length _;rw [hsl,hb];exact this
   have q3:(ow x k ad).cg=x.cg:=by rw [hb]
   have q4:(ow x k ad).cf=x.cf:=by rw [hb]
   refine ⟨⟨q1,?_,q2,?_,mi.im.inB,mi.im.inX,mi.im.inS,mi.im.inN⟩,by rw [hbl];exact mi.bw,by rw [hsl];exact mi.sw,mi.bt,mi.st,mi.et,mi.nt⟩
   ·rw [q3];exact Sl.fix mi.im.cg (K:=fun b=>b<h.bX∧b≠sk∧b≠bk) (fun b o n kk e=>ntg b (by have:=mi.et _ _ _ _ e;omega) (by have:=mi.et _ _ _ _ e;omega) (mi.im.inX _ _ _ _ e)) f
   ·rw [q4];exact Sl.fix mi.im.cf (K:=fun b=>b<h.bX∧b≠sk∧b≠bk) (fun b o n kk e=>ntg b (by have:=mi.nt _ _ _ _ e;omega) (by have:=mi.nt _ _ _ _ e;omega) (mi.im.inN _ _ _ _ e)) f
  ·rw [List.getElem?_set_ne (Ne.symm hji)] at hxj;have mj:=a.im j cj xj hcj hxj
   exact ⟨⟨Sl.fix mj.im.bytes (K:=fun b=>b<h.bX∧b≠sk∧b≠bk) (fun b o n kk e=>ntg b (by have:=(mj.bt _ _ _ _ e).2;omega) (by have:=(mj.bt _ _ _ _ e).2;omega) (mj.im.inB _ _ _ _ e)) f,
    Sl.fix mj.im.cg (K:=fun b=>b<h.bX∧b≠sk∧b≠bk) (fun b o n kk e=>ntg b (by have:=mj.et _ _ _ _ e;omega) (by have:=mj.et _ _ _ _ e;omega) (mj.im.inX _ _ _ _ e)) f,
    Sl.fix mj.im.cb (K:=fun b=>b<h.bX∧b≠sk∧b≠bk) (fun b o n kk e=>ntg b (by have:=(mj.st _ _ _ _ e).2;omega) (by have:=(mj.st _ _ _ _ e).2;omega) (mj.im.inS _ _ _ _ e)) f,
    Sl.fix mj.im.cf (K:=fun b=>b<h.bX∧b≠sk∧b≠bk) (fun b o n kk e=>ntg b (by have:=mj.nt _ _ _ _ e;omega) (by have:=mj.nt _ _ _ _ e;omega) (mj.im.inN _ _ _ _ e)) f,
    mj.im.inB,mj.im.inX,mj.im.inS,mj.im.inN⟩,mj.bw,mj.sw,mj.bt,mj.st,mj.et,mj.nt⟩
theorem BN {c:V} {n:Nat} (w:Whole c n) {h:H} {sz:Nat} {vs:List V} (a:Sl (E g) h sz c n vs) (hn:0<n):∃b k,c=.slice b 0 n k∧(k=.lit n∨k=.opn 0 0):=by
 rcases w with rfl|q
 ·have:=a.len;simp only [iu] at this;injection this with this;omega
 ·exact q
theorem bind_ok {h:H} {ib q bk:Nat} {bn:Cp} {c:Ic} {x:ImgD} {s:SlotD} {l:Nat} (ac:At h ib q [i64 x.base,c.bytes,i64 x.code,i64 x.entry,c.cg,c.cb,c.cf]) (hib:ib<h.bX) (eb:c.bytes=.slice bk 0 x.bytes.length bn) (bw:bn=.lit x.bytes.length∨bn=.opn 0 0)
  (ba:At h bk 0 (x.bytes.map u8)) (hbk:bk<h.bX) (hl:IntKind.i64.wrap (s.cl - x.base)=(l:Int)) (hl8:l+8≤x.bytes.length) :
  WF (E g) 93 [.ptr ib q,.agg (fU s)] h fun _ h'=>At h' bk 0 ((er x.bytes l (leB (U s.bound) 8)).map u8)∧Fix (fun b=>b<h.bX∧b≠bk) h h':=by
 refine WF.enter fn93 rfl ?_;refine au ?_;refine eI (v:=.agg (fU s)) (by (try simp only [aE,rL,rD,rB,reduceIte])) ?_;intro h1 b1 n1 f1;have b1:Has h1 h.bX [.str s.name,i64 s.cl,i64 s.bound]:=b1;refine az ?_;have ac1:=ac.fix f1 hib;rw [eb] at ac1;obtain ⟨c',hsl⟩:=sB (E:=E g) (b:=bk) (o:=0) (k:=.i64) cM rfl (cL ty5) bw (show l<x.bytes.length by omega);simp only [aH,bL] at hsl
 ((repeat refine WC.seq ?_);refine WC.draw (plans:=Iq) (by kernel_rfl) ?_;simp only [Iq,ak])
 (try simp (maxSteps:=2000000) only [aE,rL,rD,rB,reduceIte,af,Chk,cV,dX,jB,jS,aH,ac1.at cM rfl (j:=1) (by simp),ac1.at ty2 rfl (j:=0) (by simp),b1.at ty2 rfl,i64,cF,hl,hsl,ft ty2 rP rfl,mg]);refine (zg).mono fun v h2 ⟨e2,f2⟩=>?_;subst e2;have x2:=f2.bX;have ac2:=ac1.fix f2;have b2:=b1.fix f2;(try simp (maxSteps:=2000000) only [aE,rL,rD,rB,reduceIte,af,Chk,cV,dX,jB,jS,aH,ac2.at cM rfl (j:=1) (by simp),ac2.at ty2 rfl (j:=0) (by simp),b2.at ty2 rfl,i64,cF,hl,hsl,ft ty2 rP rfl,mg])
 refine (Ip ((ba.fix f1 hbk).fix f2) (by omega) hl8 (by omega) (U_lt _)).mono fun v h3 ⟨a3,f3⟩=>?_;refine am ?_;exact ⟨a3,⟨by have:=f3.bX;omega,fun b hb=>by rw [f3.ca b ⟨by omega,hb.2⟩,f2.ca b (by omega),f1.ca b hb.1]⟩⟩
end Go.Proofs.OP
namespace Go.Ev
open Go
section
variable {E : Env}
def Mi (h:H) (b:Nat) (L:List Int):Prop:=∃es c,h.t.get b=some (.map es c)∧es.map (fun e=>(e.1,e.2.1))=L.map (fun p=>(V.int .i64 p,V.bool true))
theorem Mi.fix {h h':H} {K:Nat→Prop} {b:Nat} {L:List Int} (m:Mi h b L) (f:Fix K h h') (hb:K b:=by omega):Mi h' b L:=by
 obtain ⟨es,c,h1,h2⟩:=m;exact ⟨es,c,by rw [f.ca b hb];exact h1,h2⟩
theorem xw {h:H} {k:Int}:∀{L:List Int} {es:List (V×V×Nat)} {i:Nat},es.map (fun e=>(e.1,e.2.1))=L.map (fun p=>(V.int .i64 p,V.bool true)) →
  match L.contains k with
  | false=>gU E h (.int .i64) (.int .i64 k) es i=some none
  | true=>∃j born,gU E h (.int .i64) (.int .i64 k) es i=some (some (j,.bool true,born))
 | [],[],i,_=>rfl
 | [],e::es,i,he=>by simp at he
 | p::L,[],i,he=>by simp at he
 | p::L,(ek,ev,ec)::es,i,he=>by
  simp only [bI,List.cons.injEq,Prod.mk.injEq] at he;obtain ⟨⟨e1,e2⟩,e3⟩:=he;subst e1 e2;have ih:=xw (h:=h) (k:=k) (L:=L) (es:=es) (i:=Nat.succ i) e3;have hk:va E h (.int .i64) (.int .i64 k) (.int .i64 p)=some (decide (k=p)):=rfl
  by_cases hp:k=p
  ·subst hp;have:(k::L).contains k=true:=by simp
   rw [this];refine ⟨i,ec,?_⟩;unfold gU;rw [hk,aJ rfl]
  ·have:(p::L).contains k=L.contains k:=by simp [List.contains_cons,hp]
   rw [this]
   have hf:gU E h (.int .i64) (.int .i64 k) ((.int .i64 p,.bool true,ec)::es) i=gU E h (.int .i64) (.int .i64 k) es (Nat.succ i):=by
    conv=>lhs;unfold gU
    rw [hk,aK hp]
   rw [hf];exact ih
section
variable {h : H} {b ty kt et : Nat} {L : List Int} {i ki ei : TI} {k : Int}
theorem Dj (m:Mi h b L) (ht:E.tys.get ty=some i) (hd:i.desc=.map kt et) (hk:E.tys.get kt=some ki) (hkd:ki.desc=.int .i64) (he:E.tys.get et=some ei) (hz:ei.zeroV=some (.bool false)) :
  gJ E h ty (.map b) (.int .i64 k) false=some (.bool (L.contains k)):=by
 obtain ⟨es,c,h1,h2⟩:=m;have:=xw (E:=E) (h:=h) (k:=k) (i:=0) h2;simp only [gJ,qB,ht,hd,hk,he,hkd,qx,cond_true,rq,h1]
 cases hl:L.contains k with
 | false=>rw [hl] at this;simp only [this,hz,bo];rfl
 | true =>
  rw [hl] at this;obtain ⟨j,born,q1⟩:=this;simp only [q1];rfl
theorem wq {Q:V→H→Prop} (m:Mi h b L) (hn:L.contains k=false) (ht:E.tys.get ty=some i) (hd:i.desc=.map kt et) (hk:E.tys.get kt=some ki) (hkd:ki.desc=.int .i64) (he:E.tys.get et=some ei)
  (q:∀h',Mi h' b (L++[k])→h'.bX=h.bX→Fix (·≠b) h h'→Q un h'):ej (rh (iX E h ty (.map b) (.int .i64 k) (.bool true))) Q:=by
 obtain ⟨es,c,h1,h2⟩:=m;have:=xw (E:=E) (h:=h) (k:=k) (i:=0) h2;rw [hn] at this;simp only [iX,qB,ht,hd,hk,he,hkd,qx,cond_true,h1,this,pE];exact q _ ⟨_,_,by simp only [H.put,T.get_set,if_true];rfl,by simp [h2]⟩ rfl ⟨aI _,fun c hc=>by simp only [H.put,T.get_set];rw [if_neg hc]⟩
theorem vt {fr:Fr} {d:Option Nat} {ty t:Nat} {p:String} {a:Array Edge} {g:Option (Nat×Bool)} {Q:V→H→Prop}
  (q:∀h',Mi h' h.bX []→h'.bX=h.bX+1→Fix (·<h.bX) h h'→Q (.map h.bX) h'):WOp E fr h ⟨d,.makeMap ty none,t,p,a,g⟩ Q:=by
 show ej (fQ (.map h.bX,{t:=h.t.set h.bX (.map [] 0),bX:=Nat.succ h.bX})) Q;rw [tz];exact q _ ⟨[],0,by simp only [T.get_set,if_true],rfl⟩ rfl ⟨Nat.le_succ _,fun c hc=>by simp only [T.get_set];rw [if_neg (Nat.ne_of_lt hc)]⟩
end
def leS (a b:List UInt8):Bool:=Op.bytesLess a b||a==b
theorem ya {h:H} {c:Bool} {t:Nat} {a b:List UInt8}:fJ E h c .leq t (.str a) (.str b)=some (.bool (leS a b)):=rfl
end
def mf (p:Nat→Bool) (n:Nat):Bool:=(List.range n).all p
theorem gI {p:Nat→Bool} {n i:Nat} (hi:i<n) (h:p i=false):mf p n=false:=by
 cases hq:mf p n with
 | false=>rfl
 | true=>rw [mf,bH] at hq;rw [hq i (List.mem_range.2 hi)] at h;cases h
theorem kJ {p:Nat→Bool} {n:Nat} (h:∀j,j<n→p j=true):mf p n=true:=by
 rw [mf,bH];exact fun j hj=>h j (List.mem_range.1 hj)
theorem vO {p:Nat→Bool} {n i:Nat} (h:mf p n=true) (hi:i<n):p i=true:=by
 rw [mf,bH] at h;exact h i (List.mem_range.2 hi)
theorem jp {p:Nat→Prop} {i:Nat} (h:∀j,j<i→p j) (hi:p i):∀j,j<i+1→p j:=fun j hj=>by
 rcases Nat.lt_succ_iff_lt_or_eq.1 hj with q|rfl
 ·exact h j q
 ·exact hi
end Go.Ev
namespace Go.Proofs.OP
open Go Go.Ev
open Go.Proofs
open Nat renaming reduceLT → rL, reduceEqDiff → rD, reduceBEq → rB
variable {g : T (List V)}
def jk (L:List (List UInt8)) (i:Nat):Bool:=match L[i]? with
 | none=>true
 | some s=>decide (eR s=0)&&(decide (i=0)||match L[i - 1]? with
  | none=>true
  | some p => !leS s p)
def vu (L:List (List UInt8)):Bool:=mf (jk L) L.length&&decide ((L.length:Int)≤5000)
theorem pc {h:H} {s:List UInt8}:WF (E g) 80 [.str s,.bool false] h fun v h'=>v=.int .i64 (eR s)∧h'=h :=
 tG.mono fun v h' ⟨e,f⟩=>⟨by rw [e];rfl,f⟩
theorem rY {h:H} {s:V} {L:List (List UInt8)} (a:Ss g h s L) (hM:L.length<2^62):WF (E g) 95 [s] h fun v h'=>v=.bool (vu L)∧h'=h:=by
 refine WF.enter fn95 rfl ?_;refine au ?_;refine ap ?_;(try simp only [aE,rL,rD,rB,reduceIte,Sl.lenB a cD rfl]);refine ao ?_
 refine WC.while (fun m fr hh=>∃ts i,fr=⟨ts,32,[],95,none⟩∧hh=h∧m=L.length - i∧i≤L.length∧ts.get 0=some s∧ts.get 5=some s∧ts.get 6=some (.int .i64 L.length)∧ts.get 7=some (.int .i64 i)∧∀j,j<i→jk L j=true) ?_ ⟨_,0,rfl,rfl,rfl,by omega,?_,?_,?_,?_,fun j hj=>absurd hj (Nat.not_lt_zero _)⟩
 ·rintro m fr hh ⟨ts,i,rfl,rfl,rfl,hi,t0,t5,t6,t7,hal⟩
  refine ap ?_;(try simp only [aE,rL,rD,rB,reduceIte,t6,t7]);refine aw ?_
  by_cases hlt:i<L.length
  ·refine aG (WC.skip ?_);refine az ?_;obtain ⟨p,p1,p2⟩:=a.at cD rfl ty9 rfl rfl hlt;have p2:=p2 hh fun _ _ _ _ _=>rfl;have hg:L[i]?=some L[i]:=List.getElem?_eq_getElem hlt;refine ao ?_;refine ap ?_;(try simp only [aE,rL,rD,rB,reduceIte,t5,t7,p1,p2])
   rcases bg (eR L[i] != 0) with q1|q1
   ·refine au ?_;refine pc.mono fun v h2 ⟨e2,e2'⟩=>?_;subst e2 e2';(try simp only [aE,rL,rD,rB,reduceIte,un,q1]);refine aw ?_;refine WC.cond (b:=true) (by (try simp only [aE,rL,rD,rB,reduceIte,q1]);(try simp);(try omega)) ?_;refine au ?_;refine WC.ret ?_;refine az ?_;refine ⟨?_,by trivial⟩;have q1e:¬eR L[i]=0:=by simpa using q1
    rw [vu,gI hlt (by simp only [jk,hg];rw [aK q1e];rfl),Bool.false_and]
   have q1e:eR L[i]=0:=by simpa using q1
   by_cases hz:i=0
   ·subst hz;refine au ?_;refine pc.mono fun v h2 ⟨e2,e2'⟩=>?_;subst e2 e2';have hpos:decide ((0:Int)<((0:Nat):Int))=false:=rfl;(try simp only [aE,rL,rD,rB,reduceIte,un,q1,hpos]);refine aw ?_;refine WC.cond (b:=false) (by (try simp only [aE,rL,rD,rB,reduceIte,q1,hpos]);(try simp);(try omega)) (WC.skip ?_);refine ax ?_;(try simp only [aE,rL,rD,rB,reduceIte,t7,ct])
    refine ⟨_,?_,_,1,rfl,by trivial,rfl,by omega,?_⟩
    ·omega
    (try simp only [aE,rL,rD,rB,reduceIte,t0,t5,t6]);refine ⟨aD,aD,aD,?_,jp hal (by simp only [jk,hg];rw [aJ q1e];rfl)⟩
    rfl
   ·have hlt':i - 1<L.length:=by omega
    obtain ⟨p',p1',p2'⟩:=a.at cD rfl ty9 rfl rfl hlt';have p2':=p2' hh fun _ _ _ _ _=>rfl;have hg':L[i - 1]?=some L[i - 1]:=List.getElem?_eq_getElem hlt';have ew:IntKind.i64.wrap ((i:Int) - 1)=((i - 1:Nat):Int):=by rw [cy (by omega) (by omega)];omega
    refine au ?_;refine pc.mono fun v h2 ⟨e2,e2'⟩=>?_;subst e2 e2';have hpos:decide ((0:Int)<(i:Int))=true:=aJ (by omega);(try simp only [aE,rL,rD,rB,reduceIte,un,q1,hpos,cF,ew,t0,p1',p2',ya]);refine aw ?_
    cases hl:leS L[i] L[i - 1] with
    | true =>
     refine WC.cond (b:=true) (by (try simp only [aE,rL,rD,rB,reduceIte,q1,hl]);(try simp);(try omega)) ?_;refine au ?_;refine WC.ret ?_;refine az ?_;refine ⟨?_,by trivial⟩;rw [vu,gI hlt (by simp only [jk,hg,hg'];simp [q1e,hz,hl]),Bool.false_and]
    | false =>
     refine WC.cond (b:=false) (by (try simp only [aE,rL,rD,rB,reduceIte,q1,hl]);(try simp);(try omega)) (WC.skip ?_);refine ax ?_;(try simp only [aE,rL,rD,rB,reduceIte,t7,ct])
     refine ⟨_,?_,_,i+1,rfl,by trivial,rfl,by omega,?_⟩
     ·omega
     (try simp only [aE,rL,rD,rB,reduceIte,t0,t5,t6]);refine ⟨aD,aD,aD,?_,jp hal (by simp only [jk,hg,hg'];simp [q1e,hl])⟩;rw [cy (by omega) (by omega)];rfl
  ·refine aF (WC.exit ?_);have:i=L.length:=by omega
   subst this;refine ax ?_;(try simp only [aE,rL,rD,rB,reduceIte,t0,Sl.lenB a cD rfl]);refine WC.ret ?_;refine az ?_;refine ⟨?_,by trivial⟩;rw [vu,kJ hal,Bool.true_and]
 all_goals (try simp only [aE,rL,rD,rB,reduceIte])
 all_goals (first|trivial|rfl|simp)
end Go.Proofs.OP
