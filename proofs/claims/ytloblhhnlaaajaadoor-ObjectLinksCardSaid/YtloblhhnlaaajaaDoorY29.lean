/- Walks: Write of an image. Printed by genr6.py. -/
import Derived.Test.YtloblhhnlaaajaaDoorY28
set_option linter.unusedVariables false
set_option linter.unusedSimpArgs false
set_option linter.defProp false
namespace Go.Proofs.OP
open Go Go.Ev
open Go.Proofs
open Nat renaming reduceLT → rL, reduceEqDiff → rD, reduceBEq → rB
variable {g : T (List V)}
structure SmallI (x:ImgD):Prop where
 head:0≤x.base∧x.base≤2147483648∧x.base.tmod 16=0∧(x.bytes.length:Int)≤131072∧0≤x.code∧x.code≤x.bytes.length∧(x.entry=0∨(x.base≤x.entry∧x.entry<x.base+x.code))∧(x.cf.length:Int)≤400
 cg:x.cg.length≤5000
 cb:x.cb.length≤5000
 ename:∀s∈x.cg,s.name.length≤64
 sname:∀s∈x.cb,s.name.length≤64
 nname:∀s∈x.cf,s.length≤64
 eaddr:∀s∈x.cg,x.base≤s.cl∧s.cl≤x.base+x.bytes.length
 saddr:∀s∈x.cb,x.base≤s.cl∧s.cl≤x.base+x.bytes.length - 8∧0≤s.bound∧s.bound≤4294967296
theorem xl {L:List (List UInt8)} (h:vu L=true):L.length≤5000∧∀s∈L,s.length≤64:=by
 simp only [vu,aU,decide_eq_true_eq] at h;refine ⟨by omega,fun s hs=>?_⟩;obtain ⟨i,hi,rfl⟩:=List.getElem_of_mem hs;have:=vO h.1 hi;rw [jk,List.getElem?_eq_getElem hi] at this;simp only [aU,decide_eq_true_eq] at this;exact ze this.1
theorem yQ {x:ImgD} (h:gc x=true):SmallI x:=by
 simp only [gc,aU] at h;obtain ⟨h1,h2,h3,h4,h5,h6⟩:=h;obtain ⟨a1,a2⟩:=xl h5;obtain ⟨b1,b2⟩:=xl h6;simp only [rZ,aU,bS,decide_eq_true_eq] at h1
 refine ⟨h1,by simpa using a1,by simpa using b1,fun s hs=>a2 _ (List.mem_map_of_mem hs),fun s hs=>b2 _ (List.mem_map_of_mem hs),fun s hs=>?_,fun s hs=>?_,fun s hs=>?_⟩
 ·obtain ⟨i,hi,rfl⟩:=List.getElem_of_mem hs;have:=vO h4 hi;rw [qz,List.getElem?_eq_getElem hi] at this;simp only [aU,decide_eq_true_eq] at this;exact ze this.1
 ·obtain ⟨i,hi,rfl⟩:=List.getElem_of_mem hs;have:=vO h2 hi;rw [yA,List.getElem?_eq_getElem hi] at this;simp only [aU,decide_eq_true_eq] at this;exact this
 ·obtain ⟨i,hi,rfl⟩:=List.getElem_of_mem hs;have:=vO h3 hi;rw [pY,List.getElem?_eq_getElem hi] at this;simp only [aU,decide_eq_true_eq] at this;exact ⟨this.1,this.2.1,this.2.2.2.1,this.2.2.2.2.1⟩
def yF (xs:List ImgD):Prop:=∀x∈xs,SmallI x
theorem yF.at {xs:List ImgD} (h:yF xs) {i:Nat} {x:ImgD} (hx:xs[i]?=some x):SmallI x:=h x (bR hx)
theorem yF.cg {xs:List ImgD} (h:yF xs):∀x∈xs,x.cg.length<2^40:=fun x hx=>by have:=(h x hx).cg;omega
theorem yF.room {xs:List ImgD} (h:yF xs) {i k:Nat} {x:ImgD} (hx:xs[i]?=some x) (hk:k<x.cb.length):x.base≤x.cb[k].cl∧x.cb[k].cl≤x.base+x.bytes.length - 8∧0≤x.base∧x.base≤2^32∧x.bytes.length≤2^32:=by
 have sm:=h.at hx;obtain ⟨a1,a2,-,a4,-⟩:=sm.head;obtain ⟨b1,b2,-⟩:=sm.saddr _ (aP hk);exact ⟨b1,b2,a1,by omega,by omega⟩
theorem Cy {x:ImgD} (sm:SmallI x) {k:Nat} {a:Int} (ha:0≤a∧a≤4294967296):SmallI (ow x k a):=by
 unfold ow
 split
 ·exact sm
 ·rename_i s hs;obtain ⟨hk,rfl⟩:=List.getElem?_eq_some_iff.1 hs;have hm:=aP hk;obtain ⟨b1,b2,b3,b4⟩:=sm.saddr _ hm;obtain ⟨a1,a2,a3,a4,a5,a6,a7,a8⟩:=sm.head;have hl:(er x.bytes (x.cb[k].cl - x.base).toNat (leB (U a) 8)).length=x.bytes.length:=dP (by rw [dw];omega)
  refine ⟨⟨a1,a2,a3,by show ((er x.bytes (x.cb[k].cl - x.base).toNat (leB (U a) 8)).length:Int)≤_;rw [hl];exact a4,a5,by show _≤((er x.bytes (x.cb[k].cl - x.base).toNat (leB (U a) 8)).length:Int);rw [hl];exact a6,a7,a8⟩,sm.cg,by simpa using sm.cb,sm.ename,fun s hs=>?_,sm.nname,fun s hs=>by have:=sm.eaddr s hs;show _∧_≤x.base+((er _ _ _).length:Int);rw [hl];exact this,fun s hs=>?_⟩
  ·rcases List.mem_or_eq_of_mem_set hs with q|rfl
   ·exact sm.sname s q
   ·show x.cb[k].name.length≤64;exact sm.sname _ hm
  ·show _∧_≤x.base+((er _ _ _).length:Int) - 8∧_;rw [hl]
   rcases List.mem_or_eq_of_mem_set hs with q|rfl
   ·exact sm.saddr s q
   ·exact ⟨b1,b2,ha.1,ha.2⟩
theorem yF.setB {xs:List ImgD} (h:yF xs) {i k:Nat} {a:Int} (ha:0≤a∧a≤4294967296):yF (setB xs i k a):=by
 unfold OP.setB
 split
 ·exact h
 ·rename_i x hx;intro y hy
  rcases List.mem_or_eq_of_mem_set hy with q|rfl
  ·exact h y q
  ·exact Cy (h.at hx) ha
structure Ims (g:T (List V)) (h:H) (K:Nat→Prop) (s:V) (L:List (Ic×ImgD)):Prop where
 sl:Rcs (E g) h 7 (fun p=>p.1.cells p.2) s L
 ins:In K s
 im:∀p∈L,Im g h K p.1 p.2
theorem Ims.fix {h h':H} {K K':Nat→Prop} {s:V} {L:List (Ic×ImgD)} (a:Ims g h K s L) (f:Fix K' h h') (hs:∀b,K b→K' b:=by (intro b hb;omega)):Ims g h' K' s L :=
 ⟨Sl.fix a.sl (a.ins.sub hs) f,a.ins.sub hs,fun p hp=>((a.im p hp).fix f hs).up hs⟩
theorem Ims.up {h:H} {K K':Nat→Prop} {s:V} {L:List (Ic×ImgD)} (a:Ims g h K s L) (hs:∀b,K b→K' b:=by (intro b hb;omega)):Ims g h K' s L :=
 ⟨a.sl,a.ins.sub hs,fun p hp=>(a.im p hp).up hs⟩
def Sep (u v:V):Prop:=∀b o n c b' o' n' c',u=.slice b o n c→v=.slice b' o' n' c'→b≠b'
structure NewI (g:T (List V)) (h h':H) (c:Ic) (x:ImgD):Prop where
 im:Im g h' (·<h'.bX) c x
 bw:Whole c.bytes x.bytes.length
 sw:Whole c.cb x.cb.length
 bi:In (fun b=>h.bX≤b) c.bytes
 si:In (fun b=>h.bX≤b) c.cb
 s1:Sep c.bytes c.cb
 s2:Sep c.bytes c.cg
 s3:Sep c.bytes c.cf
 s4:Sep c.cb c.cg
 s5:Sep c.cb c.cf
theorem Sep.of {u v:V} {P Q:Nat→Prop} (a:In P u) (b:In Q v) (h:∀x,P x→Q x→False):Sep u v:=fun x o n c x' o' n' c' e e' q=>by
 subst q;exact h _ (a _ _ _ _ e) (b _ _ _ _ e')
def ij:V→Option Nat
 | .slice b _ _ _=>some b
 | _=>none
section
variable {h h' : H} {lo hi pb sb : Nat} {sc : Cp} {tag : Nat → Nat} {cs : List Ic} {xs : List ImgD}
theorem PM.up (a:PM g h lo hi pb sb sc tag cs xs) {hi':Nat} (h1:hi≤hi') (h2:hi'≤h.bX):PM g h lo hi' pb sb sc tag cs xs :=
 ⟨a.len,a.pos,a.has,⟨a.pbt.1,Nat.lt_of_lt_of_le a.pbt.2.1 h1,a.pbt.2.2⟩,⟨a.sbt.1,Nat.lt_of_lt_of_le a.sbt.2.1 h1,a.sbt.2.2⟩,a.scw,h2,a.blk,fun i c x q1 q2=>by
  have m:=a.im i c x q1 q2
  exact ⟨m.im.up,m.bw,m.sw,m.bt,m.st,m.et,m.nt⟩⟩
theorem oJ {c:Ic} {x:ImgD}:∀{cs:List Ic} {xs:List ImgD},cs.length=xs.length→eF (cs++[c]) (xs++[x])=eF cs xs++c.cells x
 | [],[],_=>by simp [eF]
 | [],_::_,h=>by simp at h
 | _::_,[],h=>by simp at h
 | d::cs,y::xs,h=>by
  have ih:=oJ (c:=c) (x:=x) (cs:=cs) (xs:=xs) (by simpa using h);unfold eF at *;simp only [List.cons_append,List.zip_cons_cons,bM,ih,bV]
theorem PM.add {sb':Nat} {sc':Cp} {tag':Nat→Nat} {c:Ic} {x:ImgD} (a:PM g h lo hi pb sb sc tag cs xs) {T:Nat} (hT:2 * xs.length+5≤T)
  (f:Fix (fun b=>b<hi∧tag b≠1∧tag b≠2∧tag b≠T) h h') (htag:∀b,b<hi→tag' b=tag b)
  (has':Has h' pb [.slice sb' 0 (xs.length+1) sc']) (scw':sc'=.lit (xs.length+1)∨sc'=.opn 0 0) (blk':At h' sb' 0 (eF cs xs++c.cells x)) (sbt':lo≤sb'∧sb'<h'.bX∧tag' sb'=2)
  (new:IM g h' lo h'.bX tag' xs.length c x):PM g h' lo h'.bX pb sb' sc' tag' (cs++[c]) (xs++[x]):=by
 have p1:=a.pbt;have hh:=a.his;have fx:=f.bX;have hl:=a.len;refine ⟨by simp [hl],by simp,by simpa using has',⟨p1.1,by omega,by rw [htag _ p1.2.1];exact p1.2.2⟩,sbt',by simpa using scw',aI _,by rw [oJ hl];exact blk',fun i d y q1 q2=>?_⟩
 by_cases hi1:i<xs.length
 ·rw [List.getElem?_append_left (by omega)] at q1 q2;have m:=a.im i d y q1 q2;have t1:In (fun b=>b<hi∧tag b≠1∧tag b≠2∧tag b≠T) d.bytes:=fun b o n k e=>by have:=(m.bt _ _ _ _ e).2;exact ⟨m.im.inB _ _ _ _ e,by omega,by omega,by omega⟩
  have t2:In (fun b=>b<hi∧tag b≠1∧tag b≠2∧tag b≠T) d.cg:=fun b o n k e=>by have:=m.et _ _ _ _ e;exact ⟨m.im.inX _ _ _ _ e,by omega,by omega,by omega⟩
  have t3:In (fun b=>b<hi∧tag b≠1∧tag b≠2∧tag b≠T) d.cb:=fun b o n k e=>by have:=(m.st _ _ _ _ e).2;exact ⟨m.im.inS _ _ _ _ e,by omega,by omega,by omega⟩
  have t4:In (fun b=>b<hi∧tag b≠1∧tag b≠2∧tag b≠T) d.cf:=fun b o n k e=>by have:=m.nt _ _ _ _ e;exact ⟨m.im.inN _ _ _ _ e,by omega,by omega,by omega⟩
  exact ⟨⟨Sl.fix m.im.bytes t1 f,Sl.fix m.im.cg t2 f,Sl.fix m.im.cb t3 f,Sl.fix m.im.cf t4 f,m.im.inB.sub,m.im.inX.sub,m.im.inS.sub,m.im.inN.sub⟩,m.bw,m.sw,
   fun b o n k e=>by
    have q:=htag _ (t1 _ _ _ _ e).1;have q2:=m.bt _ _ _ _ e;exact ⟨q2.1,q.trans q2.2⟩,fun b o n k e=>by
    have q:=htag _ (t3 _ _ _ _ e).1;have q2:=m.st _ _ _ _ e
    exact ⟨q2.1,q.trans q2.2⟩,
   fun b o n k e=>(htag _ (t2 _ _ _ _ e).1).trans (m.et _ _ _ _ e),fun b o n k e=>(htag _ (t4 _ _ _ _ e).1).trans (m.nt _ _ _ _ e)⟩
 ·have hi2:i=xs.length:=by
   obtain ⟨q,_⟩:=List.getElem?_eq_some_iff.1 q2;simp at q;omega
  subst hi2;rw [List.getElem?_append_right (by omega),hl,Nat.sub_self] at q1;rw [List.getElem?_append_right (aI _),Nat.sub_self] at q2;injection q1 with q1;injection q2 with q2;subst q1 q2;exact new
theorem PM.zip (a:PM g h lo hi pb sb sc tag cs xs) {p:Ic×ImgD} (hp:p∈cs.zip xs):Im g h (·<hi) p.1 p.2∧p.2∈xs:=by
 obtain ⟨i,hi',rfl⟩:=List.getElem_of_mem hp;rw [List.length_zip] at hi';have q1:cs[i]?=some cs[i]:=List.getElem?_eq_getElem (by omega);have q2:xs[i]?=some xs[i]:=List.getElem?_eq_getElem (by omega);rw [List.getElem_zip];exact ⟨(a.im i _ _ q1 q2).im,aP (by omega)⟩
end
abbrev LSt:=List Int×List ImgD
structure LInv (libs:List ImgD) (st:LSt):Prop where
 len:st.1.length=st.2.length
 nod:st.1.Nodup
 rng:∀a∈st.1,a=-1∨∃k:Nat,k<libs.length∧a=(k:Int)
 good:yF st.2
theorem BO:∀(n:Nat) (L:List Nat),L.Nodup→(∀x∈L,x<n)→L.length≤n
 | 0,L,_,h=>by
  cases L with
  | nil=>simp
  | cons x r=>exact absurd (h x (aT ..)) (Nat.not_lt_zero _)
 | n+1,L,hn,h=>by
  have h1:=BO n (L.filter (·≠n)) (hn.sublist List.filter_sublist) fun x hx=>by
   have:=List.mem_filter.1 hx;have h2:=h x this.1;have h3:x≠n:=by simpa using this.2
   omega
  have h2:L.length≤(L.filter (·≠n)).length+1:=by
   clear h1 h
   induction L with
   | nil=>simp
   | cons y r ih =>
    have hr:=(List.nodup_cons.1 hn)
    by_cases hy:y=n
    ·subst hy
     have e:(y::r).filter (·≠y)=r:=by
      rw [List.filter_cons_of_neg (by simp)]
      exact List.filter_eq_self.2 fun z hz=>by
       have:z≠y:=fun q=>hr.1 (q ▸ hz);simpa using this
     rw [e];simp
    ·rw [List.filter_cons_of_pos (by simpa using hy)];have:=ih hr.2;simp only [aO];omega
  omega
theorem LInv.bound {libs:List ImgD} {st:LSt} (i:LInv libs st):st.2.length≤libs.length+1:=by
 have h:=BO (libs.length+1) (st.1.map fun a=>(a+1).toNat) (by
  have:∀(L:List Int),L.Nodup→(∀a∈L,-1≤a)→(L.map fun a=>(a+1).toNat).Nodup:=fun L=>by
   induction L with
   | nil=>intro _ _;simp
   | cons x r ih =>
    intro hn hl;obtain ⟨h1,h2⟩:=List.nodup_cons.1 hn;rw [bI,List.nodup_cons];refine ⟨fun hm=>?_,ih h2 fun a ha=>hl a (aM _ ha)⟩;obtain ⟨y,hy,e⟩:=bP.1 hm;have q1:=hl x (aT ..);have q2:=hl y (aM _ hy);have:y=x:=by omega
    exact h1 (this ▸ hy)
  refine this st.1 i.nod fun a ha=>?_
  rcases i.rng a ha with rfl|⟨k,_,rfl⟩
  ·exact Int.le_refl _
  ·omega) fun x hx=>by
   obtain ⟨a,ha,rfl⟩:=bP.1 hx
   rcases i.rng a ha with rfl|⟨k,hk,rfl⟩
   ·simp
   ·omega
 rw [bO,i.len] at h;exact h
theorem _root_.Go.Ev.In.blk {K:Nat→Prop} {v:V} (a:In K v) {b:Nat} (h:ij v=some b):K b:=by
 cases v<;>simp only [ij,Option.some.injEq,reduceCtorEq] at h
 subst h;exact a _ _ _ _ rfl
theorem _root_.Go.Ev.In.of_blk {K:Nat→Prop} {v:V} (a:∀b,ij v=some b→K b):In K v:=fun b o n c e=>a b (by subst e;rfl)
theorem Sep.blk {u v:V} (a:Sep u v) {b c:Nat} (h:ij u=some b) (h':ij v=some c):b≠c:=by
 cases u<;>simp only [ij,Option.some.injEq,reduceCtorEq] at h
 cases v<;>simp only [ij,Option.some.injEq,reduceCtorEq] at h'
 subst h h';exact a _ _ _ _ _ _ _ _ rfl rfl
def TT:Nat:=1000000
structure LM (g:T (List V)) (el q:Nat) (X:Nat→Prop) (h:H) (lo pb sb:Nat) (sc:Cp) (tag:Nat→Nat) (cs:List Ic) (st:LSt) (av:V):Prop where
 pm:PM g h lo h.bX pb sb sc tag cs st.2
 buf:Buf (E g) h el 7 (.slice sb 0 st.2.length sc) st.2.length (eF cs st.2)
 abuf:Buf (E g) h 3 1 av st.1.length (st.1.map i64)
 ain:In (fun b=>lo≤b∧b<h.bX∧tag b=TT) av
 z:∀b,b<lo→b≠q→tag b=0
 zq:q<lo∧tag q=TT+1
 xx:∀c∈cs,In X c.cg∧In X c.cf
section
variable {el q : Nat} {X : Nat → Prop} {h h' : H} {lo pb sb : Nat} {sc : Cp} {tag : Nat → Nat} {cs : List Ic} {st : LSt} {av : V}
theorem LM.kept (a:LM g el q X h lo pb sb sc tag cs st av) (f:cH h h'):LM g el q X h' lo pb sb sc tag cs st av:=by
 have fx:=f.bX;have p1:=a.pm.pbt;have p2:=a.pm.sbt;refine ⟨(a.pm.kept f).up fx (aI _),a.buf.fix (K:=(·<h.bX)) (fun b o n c e=>by injection e with e;omega) f,a.abuf.fix (K:=(·<h.bX)) (a.ain.sub fun b hb=>hb.2.1) f,a.ain.sub fun b hb=>⟨hb.1,by omega,hb.2.2⟩,a.z,a.zq,a.xx⟩
theorem LM.bX (a:LM g el q X h lo pb sb sc tag cs st av) (hn:st.2.length≤100) {hz:H} {c':Ic} {y:ImgD} {k:Int} {sb':Nat} {sc':Cp} {av':V} {p1 p2:Nat}
  (f:Fix (fun b=>b<h.bX∧b≠pb∧b≠sb∧ij av≠some b) h hz) (hp1:h.bX≤p1) (hp2:p1≤p2) (hp3:p2≤hz.bX)
  (im:Im g hz (·<hz.bX) c' y) (bw:Whole c'.bytes y.bytes.length) (sw:Whole c'.cb y.cb.length)
  (i1:In (fun b=>h.bX≤b∧b<p1) c'.bytes) (i2:In (fun b=>h.bX≤b∧b<p1) c'.cb)
  (i3:In (fun b=>(b<lo∧b≠q)∨(h.bX≤b∧b<p1)) c'.cg) (i4:In (fun b=>(b<lo∧b≠q)∨(h.bX≤b∧b<p1)) c'.cf)
  (s1:Sep c'.bytes c'.cb) (s2:Sep c'.bytes c'.cg) (s3:Sep c'.bytes c'.cf) (s4:Sep c'.cb c'.cg) (s5:Sep c'.cb c'.cf)
  (bf:Buf (E g) hz el 7 (.slice sb' 0 (st.2.length+1) sc') (st.2.length+1) (eF cs st.2++c'.cells y)) (i5:sb'=sb∨(p1≤sb'∧sb'<p2))
  (ab:Buf (E g) hz 3 1 av' (st.1.length+1) (st.1.map i64++[i64 k])) (i6:In (fun b=>ij av=some b∨(p2≤b∧b<hz.bX)) av') (hs:Has hz pb [.slice sb' 0 (st.2.length+1) sc']) (hX:In X c'.cg∧In X c'.cf) :
  ∃tag',LM g el q X hz lo pb sb' sc' tag' (cs++[c']) (st.1++[k],st.2++[y]) av'∧(∀b,b<h.bX→tag' b=tag b):=by
 have q1:=a.pm.pbt;have q2:=a.pm.sbt;have q3:=a.pm.his;have hl:=a.pm.len;have qa:∀b,ij av=some b→lo≤b∧b<h.bX∧tag b=TT:=fun b e=>a.ain.blk e;have hlo:lo≤h.bX:=by omega
 let tag':Nat→Nat:=fun b=>if b<h.bX then tag b else if ij c'.bytes=some b then 2 * st.2.length+3 else if ij c'.cb=some b then 2 * st.2.length+4 else if b=sb' then 2 else if ij av'=some b then TT else 0
 have t0:∀b,b<h.bX→tag' b=tag b:=fun b hb=>if_pos hb
 have t1:∀b,ij c'.bytes=some b→tag' b=2 * st.2.length+3:=fun b e=>by
  have:=i1.blk e;show (if b<h.bX then tag b else _)=_;rw [if_neg (by omega),if_pos e]
 have t2:∀b,ij c'.cb=some b→tag' b=2 * st.2.length+4:=fun b e=>by
  have:=i2.blk e;show (if b<h.bX then tag b else _)=_;rw [if_neg (by omega),if_neg (fun e'=>s1.blk e' e rfl),if_pos e]
 have t3:tag' sb'=2:=by
  show (if sb'<h.bX then tag sb' else _)=_
  rcases i5 with rfl|q
  ·rw [if_pos q2.2.1];exact q2.2.2
  ·rw [if_neg (by omega),if_neg (fun e'=>by have:=i1.blk e';omega),if_neg (fun e'=>by have:=i2.blk e';omega),if_pos rfl]
 have t4:∀b,ij av'=some b→tag' b=TT:=fun b e=>by
  rcases i6.blk e with q|q
  ·have:=qa b q;rw [t0 b this.2.1];exact this.2.2
  ·show (if b<h.bX then tag b else _)=_;rw [if_neg (by omega),if_neg (fun e'=>by have:=i1.blk e';omega),if_neg (fun e'=>by have:=i2.blk e';omega),if_neg (by rcases i5 with rfl|r<;>omega),if_pos e]
 have t5:∀b,((b<lo∧b≠q)∨(h.bX≤b∧b<p1))→ij c'.bytes≠some b→ij c'.cb≠some b→tag' b=0:=fun b hb e1 e2=>by
  rcases hb with r|r
  ·rw [t0 b (by omega)];exact a.z b r.1 r.2
  ·show (if b<h.bX then tag b else _)=_;rw [if_neg (by omega),if_neg e1,if_neg e2,if_neg (by rcases i5 with rfl|r<;>omega),if_neg (fun e'=>by rcases i6.blk e' with r|r;(have:=qa b r;omega);omega)]
 have at':At hz sb' 0 (eF cs st.2++c'.cells y):=bf.sl.block (c:=0) (by omega)
 refine ⟨tag',⟨a.pm.add (T:=TT) (by show _≤1000000;omega) (f.sub fun b hb=>⟨hb.1,fun e=>hb.2.1 (by rw [e];exact q1.2.2),fun e=>hb.2.2.1 (by rw [e];exact q2.2.2),fun e=>hb.2.2.2 (qa b e).2.2⟩) t0 hs ?_ at' ⟨?_,?_,t3⟩
  ⟨im,bw,sw,?_,?_,?_,?_⟩,?_,?_,?_,fun b hb hq=>by rw [t0 b (by omega)];exact a.z b hb hq,⟨a.zq.1,by rw [t0 q (by have:=a.zq;omega)];exact a.zq.2⟩,fun d hd=>by
  rcases bN.1 hd with r|r
  ·exact a.xx d r
  ·rw [aN] at r;subst r;exact hX⟩,t0⟩
 ·rcases bf.whole with q|⟨b,c,q,r⟩
  ·cases q
  ·injection q with _ _ _ q;subst q;exact r
 ·rcases i5 with rfl|q<;>omega
 ·rcases i5 with rfl|q<;>omega
 ·exact Go.Ev.In.of_blk fun b e=>⟨by have:=i1.blk e;omega,t1 b e⟩
 ·exact Go.Ev.In.of_blk fun b e=>⟨by have:=i2.blk e;omega,t2 b e⟩
 ·exact Go.Ev.In.of_blk fun b e=>t5 b (i3.blk e) (fun e'=>s2.blk e' e rfl) (fun e'=>s4.blk e' e rfl)
 ·exact Go.Ev.In.of_blk fun b e=>t5 b (i4.blk e) (fun e'=>s3.blk e' e rfl) (fun e'=>s5.blk e' e rfl)
 ·show Buf (E g) hz el 7 (.slice sb' 0 (st.2++[y]).length sc') (st.2++[y]).length (eF (cs++[c']) (st.2++[y]));rw [oJ hl,aQ];exact bf
 ·show Buf (E g) hz 3 1 av' (st.1++[k]).length ((st.1++[k]).map i64);rw [List.map_append,aQ];exact ab
 ·exact Go.Ev.In.of_blk fun b e=>⟨by rcases i6.blk e with q|q;(have:=qa b q;omega);omega,by rcases i6.blk e with q|q;(have:=qa b q;omega);omega,t4 b e⟩
end
section
variable {el q : Nat} {X : Nat → Prop} {h : H} {lo pb sb : Nat} {sc : Cp} {tag : Nat → Nat} {cs : List Ic} {st : LSt} {av : V}
theorem LM.fin (a:LM g el q X h lo pb sb sc tag cs st av) (hn:st.2.length≤100) {hx hy h1 h2 hz:H} {c':Ic} {y:ImgD} {k:Int} {sb':Nat} {sc':Cp} {av':V}
  (e0:h.bX≤hx.bX) (nw:NewI g hx hy c' y) (i3:In (fun b=>(b<lo∧b≠q)∨hx.bX≤b) c'.cg) (i4:In (fun b=>(b<lo∧b≠q)∨hx.bX≤b) c'.cf)
  (F:Fix (fun b=>b<h.bX) h hy) (e1:hx.bX≤hy.bX) (f1:Fix (fun b=>b<hy.bX∧b≠sb) hy h1) (f2:Fix (fun b=>b<h1.bX∧ij av≠some b) h1 h2) (f3:Fix (·≠pb) h2 hz)
  (bf:Buf (E g) h1 el 7 (.slice sb' 0 (st.2.length+1) sc') (st.2.length+1) (eF cs st.2++c'.cells y)) (i5:sb'=sb∨(hy.bX≤sb'∧sb'<h1.bX))
  (ab:Buf (E g) h2 3 1 av' (st.1.length+1) (st.1.map i64++[i64 k])) (i6:In (fun b=>ij av=some b∨(h1.bX≤b∧b<h2.bX)) av') (hs:Has hz pb [.slice sb' 0 (st.2.length+1) sc']) (hX:In X c'.cg∧In X c'.cf) :
  ∃tag',LM g el q X hz lo pb sb' sc' tag' (cs++[c']) (st.1++[k],st.2++[y]) av'∧(∀b,b<h.bX→tag' b=tag b)∧Fix (fun b=>b<h.bX∧(tag b=0∨tag b=TT+1)) h hz:=by
 have q1:=a.pm.pbt;have q2:=a.pm.sbt;have x0:=F.bX;have x1:=f1.bX;have x2:=f2.bX;have x3:=f3.bX;have qa:∀b,ij av=some b→lo≤b∧b<h.bX∧tag b=TT:=fun b e=>a.ain.blk e;have hT:TT=1000000:=rfl;have G:Fix (fun b=>b<h.bX∧b≠pb∧b≠sb∧ij av≠some b) h hz:=⟨by omega,fun b hb=>by rw [f3.ca b hb.2.1,f2.ca b ⟨by omega,hb.2.2.2⟩,f1.ca b ⟨by omega,hb.2.2.1⟩,F.ca b hb.1]⟩
 have Gy:Fix (fun b=>b<hy.bX∧(b<lo∨hx.bX≤b)) hy hz:=⟨by omega,fun b hb=>by
  have e1:b≠pb:=by omega
  have e2:b≠sb:=by omega
  have e3:ij av≠some b:=fun e=>by have:=qa b e;omega
  rw [f3.ca b e1,f2.ca b ⟨by omega,e3⟩,f1.ca b ⟨by omega,e2⟩]⟩
 obtain ⟨tag',l,t⟩:=a.bX hn (hz:=hz) (c':=c') (y:=y) (k:=k) (sb':=sb') (sc':=sc') (av':=av') (p1:=hy.bX) (p2:=h1.bX) G (by omega) x1 (by omega)
  ⟨Sl.fix nw.im.bytes (K:=fun b=>b<hy.bX∧(b<lo∨hx.bX≤b)) (fun b o n c e=>⟨nw.im.inB _ _ _ _ e,.inr (nw.bi _ _ _ _ e)⟩) Gy,
   Sl.fix nw.im.cg (K:=fun b=>b<hy.bX∧(b<lo∨hx.bX≤b)) (fun b o n c e=>⟨nw.im.inX _ _ _ _ e,(i3 _ _ _ _ e).imp And.left id⟩) Gy,
   Sl.fix nw.im.cb (K:=fun b=>b<hy.bX∧(b<lo∨hx.bX≤b)) (fun b o n c e=>⟨nw.im.inS _ _ _ _ e,.inr (nw.si _ _ _ _ e)⟩) Gy,
   Sl.fix nw.im.cf (K:=fun b=>b<hy.bX∧(b<lo∨hx.bX≤b)) (fun b o n c e=>⟨nw.im.inN _ _ _ _ e,(i4 _ _ _ _ e).imp And.left id⟩) Gy,
   nw.im.inB.sub,nw.im.inX.sub,nw.im.inS.sub,nw.im.inN.sub⟩
  nw.bw nw.sw (fun b o n c e=>⟨by have:=nw.bi _ _ _ _ e;omega,nw.im.inB _ _ _ _ e⟩) (fun b o n c e=>⟨by have:=nw.si _ _ _ _ e;omega,nw.im.inS _ _ _ _ e⟩)
  (fun b o n c e=>by have:=i3 _ _ _ _ e;have:=nw.im.inX _ _ _ _ e;omega) (fun b o n c e=>by have:=i4 _ _ _ _ e;have:=nw.im.inN _ _ _ _ e;omega)
  nw.s1 nw.s2 nw.s3 nw.s4 nw.s5
  ((bf.fix (K:=fun b=>b<h1.bX∧ij av≠some b) (fun b o n c e=>by
   injection e with e;subst e;refine ⟨by rcases i5 with rfl|q<;>omega,fun e=>?_⟩;have:=qa _ e
   rcases i5 with rfl|q<;>omega) f2).fix (K:=(·≠pb)) (fun b o n c e=>by
   injection e with e;subst e
   rcases i5 with rfl|q
   ·intro e;rw [e] at q2;omega
   ·show _≠_;omega) f3) i5
  (ab.fix (K:=(·≠pb)) (fun b o n c e e'=>by
   rcases i6 _ _ _ _ e with q|q
   ·have:=qa _ q;rw [e'] at this;omega
   ·omega) f3) (i6.sub fun b hb=>hb.imp id fun q=>by omega) hs hX
 exact ⟨tag',l,t,G.sub fun b hb=>⟨hb.1,fun e=>by rw [e] at hb;omega,fun e=>by rw [e] at hb;omega,fun e=>by have:=qa _ e;omega⟩⟩
end
theorem PM.low {h:H} {lo lo' hi pb sb:Nat} {sc:Cp} {tag:Nat→Nat} {cs:List Ic} {xs:List ImgD} (a:PM g h lo hi pb sb sc tag cs xs) (hl:lo'≤lo):PM g h lo' hi pb sb sc tag cs xs :=
 ⟨a.len,a.pos,a.has,⟨by have:=a.pbt;omega,a.pbt.2⟩,⟨by have:=a.sbt;omega,a.sbt.2⟩,a.scw,a.his,a.blk,fun i c x q1 q2=>by
  have m:=a.im i c x q1 q2
  exact ⟨m.im,m.bw,m.sw,m.bt.sub fun b hb=>⟨by omega,hb.2⟩,m.st.sub fun b hb=>⟨by omega,hb.2⟩,m.et,m.nt⟩⟩
theorem LM.zz {el q:Nat} {X:Nat→Prop} {h:H} {lo pb sb:Nat} {sc:Cp} {tag:Nat→Nat} {cs:List Ic} {st:LSt} {av:V} (a:LM g el q X h lo pb sb sc tag cs st av) {b:Nat} (hb:b<lo):tag b=0∨tag b=TT+1 :=
 if e:b=q then .inr (e ▸ a.zq.2) else .inl (a.z b hb e)
end Go.Proofs.OP
