/- Walks: the law of damage. -/
import Derived.Test.YtloblhhnlaaajaaDoorY20
import Derived.Test.YtloblhhnlaaajaaDoorY22
import Derived.Shelf.SlIter.Keys
import Derived.Shelf.SlIter.Sorted
import Derived.Shelf.SortM.Plain
import Derived.Shelf.SortM.SortNone
set_option linter.unusedVariables false
set_option linter.unusedSimpArgs false
set_option linter.defProp false
namespace Go.Ev
open Go
theorem Sl.put {E:Env} {h:H} {n:Nat} {s:V} {vs:List V} (a:Sl E h 1 s n vs) (ho:∃b o m c,s=.slice b o m c) {t e k:Nat} {i ei:TI} (ht:E.tys.get t=some i) (hd:i.desc=.slice e) (he:E.tys.get e=some ei) (hsz:ei.size=1) (hk:k<n) {v:V} (hv:v.cells=[v]) (h1:v.one=true) :
  ∃p b h',cK E t s (.int .i64 k)=some p∧(∃o m c,s=.slice b o m c)∧su E h e p v=some h'∧Sl E h' 1 s n (vs.set k v)∧h'.bX=h.bX∧Fix (·≠b) h h':=by
 obtain ⟨b,o,m,c,rfl⟩:=ho;have hc:=a.cells;have hl:=a.len;simp only [iu] at hl;injection hl with hl;subst hl;have hlt:Nat.blt k m=true:=by simpa using hk
 have h0:Nat.beq (m * 1) 0=false:=kI (by omega);unfold cX at hc;simp only [h0,cond_false] at hc;obtain ⟨_,hc⟩:=cI hc
 split at hc
 ·rename_i tt N d e' kk hb;obtain ⟨q1,q2⟩:=du hc;have hsize:=a.size
  have hin:∀j,j<m→o+j<N:=fun j hj=>by
   have q:=q2 j (by omega)
   rcases Nat.lt_or_ge (o+j) N with q'|q'
   ·exact q'
   ·exfalso
    have hf:Nat.blt (o+j) N=false:=by
     cases hx:Nat.blt (o+j) N with
     | false=>rfl
     | true => have : o + j < N := by simpa using hx
               omega
    unfold eH at q;rw [hf] at q;simp only [cond_false] at q;rw [List.getElem?_eq_getElem (by omega)] at q
    cases q
  have hle:Nat.ble (o+k+1) N=true:=cQ (by have:=hin k hk;omega)
  refine ⟨.ptr b (o+k),b,h.put b (.cells (T.putL tt (o+k) [v]) N d e' kk),?_,⟨o,m,c,rfl⟩,?_,?_,rfl,⟨aI _,fun x hx=>by simp only [H.put,T.get_set];rw [if_neg hx]⟩⟩
  ·simp [cK,ht,hd,fW,hlt,dy,he,hsz]
  ·have hb1:Nat.beq 1 ei.size=true:=by rw [hsz];rfl
   simp only [su,pB,he,hv,List.length_singleton,hb1,cond_true,gZ,hb,hle,List.all_cons,List.all_nil,h1,Bool.and_self]
  ·refine ⟨rfl,?_,a.slice,a.cap⟩;have hput:(h.put b (.cells (T.putL tt (o+k) [v]) N d e' kk)).t.get b=some (.cells (T.putL tt (o+k) [v]) N d e' kk):=by simp only [H.put,T.get_set,if_true]
   simp only [cX,h0,cond_false,cQ (aI m),cond_true,hput];refine eu (by rw [List.length_set];omega) (fun j hj=>?_);have q:=q2 j hj;have hjm:j<m:=by omega
   have hj2:=hin j hjm;have hb2:Nat.blt (o+j) N=true:=by simpa using hj2
   unfold eH at q ⊢;rw [hb2] at q ⊢;simp only [cond_true,T.get_putL,List.length_singleton] at q ⊢
   by_cases e:j=k
   ·subst e;rw [if_pos (by omega),List.getElem?_set_self (by omega)];simp
   ·rw [if_neg (by omega),List.getElem?_set_ne (Ne.symm e)];exact q
 ·cases hc
end Go.Ev
namespace Go.Proofs.OP
open Go Go.Ev
open Go.Proofs
open Nat renaming reduceLT → rL, reduceEqDiff → rD, reduceBEq → rB
variable {g : T (List V)}
theorem nM.own {h:H} {s:V} {xs:List UInt8} (b:nM g h s xs) (hx:0<xs.length):∃b o m c,s=.slice b o m c:=by
 unfold nM at b;generalize xs.length=n at b hx;generalize xs.map u8=vs at b
 cases b with
 | nil=>omega
 | lit _ _=>exact ⟨_,_,_,_,rfl⟩
 | opn _ _ _=>exact ⟨_,_,_,_,rfl⟩
end Go.Proofs.OP
namespace Go.Ev
open Go
section
variable {E : Env} {ops : List Oper}
def EM (p:List Stp):Bool:=p.all fun s => !s.eff
theorem CD {Q:Fr→H→Prop}:∀{p:List Stp} (_:EM p=true) {rd rd':List (Nat×V)} {fr:Fr} {h:H} (_:dR E ops p rd fr h Q),dR E ops p rd' fr h Q
 | [],_,_,_,_,_,k=>k
 | s::r,hp,rd,rd',fr,h,k=>by
  simp only [EM,List.all_cons,aU,Bool.not_eq_true'] at hp;obtain ⟨he,hr⟩:=hp;have ih:=fun {rd rd' fr h}=>CD (p:=r) (Q:=Q) (by exact hr) (rd:=rd) (rd':=rd') (fr:=fr) (h:=h);unfold dR at k ⊢
  cases hn:nth ops s.idx with
  | none=>simp only [hn] at k
  | some o =>
   simp only [hn] at k ⊢
   cases hw:dS fr ops o with
   | none=>simp only [hw] at k
   | some b =>
    cases b with
    | false =>
     simp only [hw] at k ⊢
     cases hq:fr.put o.dst un with
     | none=>simp only [hq] at k
     | some fr'=>simp only [hq] at k ⊢;exact ih k
    | true =>
     simp only [hw,he,cond_false] at k ⊢;refine k.mono fun v h' q=>?_
     cases hq:fr.put o.dst v with
     | none=>simp only [hq] at q
     | some fr'=>simp only [hq] at q ⊢;exact ih q
theorem yk {Q Q':Fr→H→Prop} (hQ:∀fr h,Q fr h→Q' fr h):∀{p:List Stp} {rd:List (Nat×V)} {fr:Fr} {h:H} (_:dR E ops p rd fr h Q),dR E ops p rd fr h Q'
 | [],_,_,_,k=>hQ _ _ k
 | s::r,rd,fr,h,k=>by
  have ih:=fun {rd fr h}=>yk hQ (p:=r) (rd:=rd) (fr:=fr) (h:=h);unfold dR at k ⊢
  cases hn:nth ops s.idx with
  | none=>simp only [hn] at k
  | some o =>
   simp only [hn] at k ⊢
   cases hw:dS fr ops o with
   | none=>simp only [hw] at k
   | some b =>
    cases b with
    | false =>
     simp only [hw] at k ⊢
     cases hq:fr.put o.dst un with
     | none=>simp only [hq] at k
     | some fr'=>simp only [hq] at k ⊢;exact ih k
    | true =>
     cases he:s.eff with
     | true =>
      simp only [hw,he,cond_true] at k ⊢;refine k.mono fun v h' q=>⟨q.1,?_⟩;have q:=q.2
      cases hq:fr.put o.dst v with
      | none=>simp only [hq] at q
      | some fr'=>simp only [hq] at q ⊢;exact ih q
     | false =>
      simp only [hw,he,cond_false] at k ⊢;refine k.mono fun v h' q=>?_
      cases hq:fr.put o.dst v with
      | none=>simp only [hq] at q
      | some fr'=>simp only [hq] at q ⊢;exact ih q
theorem zG {Q:Fr→H→Prop} {p2:List Stp} (h2:EM p2=true):∀{p1:List Stp} {rd:List (Nat×V)} {fr:Fr} {h:H} (_:dR E ops p1 rd fr h fun fr' h'=>dR E ops p2 [] fr' h' Q),dR E ops (p1++p2) rd fr h Q
 | [],_,_,_,k=>CD h2 k
 | s::r,rd,fr,h,k=>by
  have ih:=fun {rd fr h}=>zG h2 (Q:=Q) (p1:=r) (rd:=rd) (fr:=fr) (h:=h);rw [List.cons_append];unfold dR at k ⊢
  cases hn:nth ops s.idx with
  | none=>simp only [hn] at k
  | some o =>
   simp only [hn] at k ⊢
   cases hw:dS fr ops o with
   | none=>simp only [hw] at k
   | some b =>
    cases b with
    | false =>
     simp only [hw] at k ⊢
     cases hq:fr.put o.dst un with
     | none=>simp only [hq] at k
     | some fr'=>simp only [hq] at k ⊢;exact ih k
    | true =>
     cases he:s.eff with
     | true =>
      simp only [hw,he,cond_true] at k ⊢;refine k.mono fun v h' q=>⟨q.1,?_⟩;have q:=q.2
      cases hq:fr.put o.dst v with
      | none=>simp only [hq] at q
      | some fr'=>simp only [hq] at q ⊢;exact ih q
     | false =>
      simp only [hw,he,cond_false] at k ⊢;refine k.mono fun v h' q=>?_
      cases hq:fr.put o.dst v with
      | none=>simp only [hq] at q
      | some fr'=>simp only [hq] at q ⊢;exact ih q
theorem ey {Q M:Fr→H→Prop} (k:Nat) {p:List Stp} {rd:List (Nat×V)} {fr:Fr} {h:H} (h2:EM (p.drop k)=true) (k1:dR E ops (p.take k) rd fr h M) (k2:∀fr h,M fr h→dR E ops (p.drop k) [] fr h Q):dR E ops p rd fr h Q:=by
 rw [←List.take_append_drop k p];exact zG h2 (yk k2 k1)
theorem zF {all:List Oper} {Q Q':Fr→H→Prop} (hQ:∀fr h,Q fr h→Q' fr h):∀{p:List Oper} {fr:Fr} {h:H} (_:pw E all p fr h Q),pw E all p fr h Q'
 | [],_,_,k=>hQ _ _ k
 | o::r,fr,h,k=>by
  have ih:=fun {fr h}=>zF hQ (all:=all) (p:=r) (fr:=fr) (h:=h);unfold pw at k ⊢
  cases hw:dS fr all o with
  | none=>simp only [hw] at k
  | some b =>
   cases b with
   | false =>
    simp only [hw] at k ⊢
    cases hq:fr.put o.dst un with
    | none=>simp only [hq] at k
    | some fr'=>simp only [hq] at k ⊢;exact ih k
   | true =>
    simp only [hw] at k ⊢;refine k.mono fun v h' q=>?_
    cases hq:fr.put o.dst v with
    | none=>simp only [hq] at q
    | some fr'=>simp only [hq] at q ⊢;exact ih q
theorem CC {all:List Oper} {Q:Fr→H→Prop} {p2:List Oper}:∀{p1:List Oper} {fr:Fr} {h:H} (_:pw E all p1 fr h fun fr' h'=>pw E all p2 fr' h' Q),pw E all (p1++p2) fr h Q
 | [],_,_,k=>k
 | o::r,fr,h,k=>by
  have ih:=fun {fr h}=>CC (all:=all) (Q:=Q) (p2:=p2) (p1:=r) (fr:=fr) (h:=h);rw [List.cons_append];unfold pw at k ⊢
  cases hw:dS fr all o with
  | none=>simp only [hw] at k
  | some b =>
   cases b with
   | false =>
    simp only [hw] at k ⊢
    cases hq:fr.put o.dst un with
    | none=>simp only [hq] at k
    | some fr'=>simp only [hq] at k ⊢;exact ih k
   | true =>
    simp only [hw] at k ⊢;refine k.mono fun v h' q=>?_
    cases hq:fr.put o.dst v with
    | none=>simp only [hq] at q
    | some fr'=>simp only [hq] at q ⊢;exact ih q
theorem gq {all:List Oper} {Q M:Fr→H→Prop} (k:Nat) {p:List Oper} {fr:Fr} {h:H} (k1:pw E all (p.take k) fr h M) (k2:∀fr h,M fr h→pw E all (p.drop k) fr h Q):pw E all p fr h Q:=by
 rw [←List.take_append_drop k p];exact CC (zF k2 k1)
end
def At (h:H) (b o:Nat) (vs:List V):Prop:=∃t N d e k,h.t.get b=some (.cells t N d e k)∧dT t N d o vs.length=some vs
section
variable {E : Env} {K : Nat → Prop} {h h' : H} {b o : Nat} {vs : List V}
theorem Has.at0 (a:Has h b vs):At h b 0 vs:=by
 obtain ⟨t,d,e,k,h1,h2⟩:=a;exact ⟨t,_,d,e,k,h1,h2⟩
theorem At.fix (a:At h b o vs) (f:Fix K h h') (hb:K b:=by omega):At h' b o vs:=by
 obtain ⟨t,N,d,e,k,h1,h2⟩:=a;exact ⟨t,N,d,e,k,by rw [f.ca b hb];exact h1,h2⟩
theorem At.part (a:At h b o vs) {p q:Nat} (hq:p+q≤vs.length):At h b (o+p) ((vs.drop p).take q):=by
 obtain ⟨t,N,d,e,k,h1,h2⟩:=a;obtain ⟨q1,q2⟩:=du h2;refine ⟨t,N,d,e,k,h1,?_⟩;have hl:((vs.drop p).take q).length=q:=by simp;omega
 rw [hl]
 exact eu hl fun j hj=>by
  rw [Nat.add_assoc,q2 _ (by omega),List.getElem?_take,if_pos hj,List.getElem?_drop]
theorem At.at (a:At h b o vs) {ty:Nat} {i:TI} (ht:E.tys.get ty=some i) (hi:i.agg=false) {j:Nat} (hj:j<vs.length):cx E h ty (.ptr b (o+j))=vs[j]?:=by
 obtain ⟨t,N,d,e,k,h1,h2⟩:=a;simp only [cx,p6,ht,h1,hi,cond_false];exact (du h2).2 j hj
theorem At.agg (a:At h b o vs) {ty:Nat} {i:TI} (ht:E.tys.get ty=some i) (hi:i.agg=true) (hs:i.size=vs.length):cx E h ty (.ptr b o)=some (.agg vs):=by
 obtain ⟨t,N,d,e,k,h1,h2⟩:=a;simp only [cx,p6,ht,h1,hi,cond_true,hs,h2]
 rfl
theorem At.room (a:At h b o vs) {t:T V} {N:Nat} {d:List V} {e k:Nat} (hb:h.t.get b=some (.cells t N d e k)) (h0:0<vs.length):o+vs.length≤N:=by
 obtain ⟨t',N',d',e',k',h1,h2⟩:=a;rw [hb] at h1;injection h1 with h1;injection h1 with h1 h3 h4 h5 h6;subst h1 h3 h4 h5 h6;have:=(du h2).2 (vs.length - 1) (by omega);rw [List.getElem?_eq_getElem (by omega)] at this;unfold eH at this
 cases hN:Nat.blt (o+(vs.length - 1)) N with
 | false=>rw [hN] at this;cases this
 | true => have : o + (vs.length - 1) < N := by simpa using hN
           omega
theorem Sl.block {sz n m c:Nat} {cc:Cp} (a:Sl E h sz (.slice b o m cc) n vs) (h0:0<n * sz):At h b o vs:=by
 have hs:=a.size;have hc:=a.cells;have hb0:Nat.beq (n * sz) 0=false:=kI (by omega);simp only [cX,hb0,cond_false] at hc;obtain ⟨_,hc⟩:=cI hc
 split at hc
 ·rename_i t N d e k hb;exact ⟨t,N,d,e,k,hb,by rw [hs];exact hc⟩
 ·cases hc
theorem At.slice {sz n:Nat} {cc:Cp} (a:At h b o vs) (hn:vs.length=n * sz) (hcc:∀c,cc=.lit c→n≤c):Sl E h sz (.slice b o n cc) n vs:=by
 obtain ⟨t,N,d,e,k,h1,h2⟩:=a;refine ⟨rfl,?_,(fun _ e=>by cases e),(fun b o m c e=>by injection e with _ _ e1 e2;subst e1;exact hcc c e2),(fun _ _ _ e=>by cases e)⟩;rw [hn] at h2;simp only [cX,h1,cQ (aI n),cond_true,h2]
 cases h0:Nat.beq (n * sz) 0 with
 | true =>
  have h0:=aS h0;rw [h0] at h2;simp [dT] at h2;subst h2;rfl
 | false=>rfl
theorem CT {ty p:Nat} {v:V} {Q:V→H→Prop} (a:At h b o vs) {i:TI} (ht:E.tys.get ty=some i) (hl:v.cells.length=i.size) (hp:p+i.size≤vs.length) (h1:v.cells.all V.one=true) (h0:0<i.size)
  (k:∀h',At h' b o (o5 vs p v.cells)→h'.bX=h.bX→Fix (·≠b) h h'→Q un h'):ej (rh (su E h ty (.ptr b (o+p)) v)) Q:=by
 have aa:=a;obtain ⟨t,N,d,e,kk,q1,q2⟩:=a;have hN:=aa.room q1 (by omega);have hbeq:Nat.beq v.cells.length i.size=true:=by rw [hl];simp
 simp only [su,pB,ht,hbeq,cond_true]
 rcases hc:v.cells with _|⟨c0,cr⟩
 ·rw [hc] at hl;simp at hl;omega
 ·have hle:Nat.ble (o+p+v.cells.length) N=true:=cQ (by omega);simp only [gZ,q1,←hc,hle,h1,Bool.and_self,cond_true,pE];have hlen:p+v.cells.length≤vs.length:=by rw [hl];exact hp
  refine k _ ⟨t.putL (o+p) v.cells,N,d,e,kk,?_,?_⟩ rfl ⟨aI _,fun c hc=>?_⟩
  ·simp only [H.put,T.get_set,if_true]
  ·rw [fO hlen];refine eu (fO hlen) (fun j hj=>?_);rw [jo (by omega),mR hlen]
   by_cases hj2:p≤j∧j<p+v.cells.length
   ·rw [if_pos ⟨by omega,by omega⟩,if_pos hj2]
    congr 1;omega
   ·rw [if_neg (by omega),if_neg hj2];exact (du q2).2 j hj
  ·simp only [H.put,T.get_set];rw [if_neg hc]
theorem Ge {t e n m p:Nat} {c:Cp} {x:V} {ws:List V} {i ei:TI} {Q:V→H→Prop} (a:At h b o vs) (ht:E.tys.get t=some i) (hd:i.desc=.slice e) (he:E.tys.get e=some ei) (hsz:ei.size=1)
  (hl:iu x=some m) (hm:m≤n) (hc:cX E h 1 m x=some ws) (hw:ws.length=m) (hp:p+m≤vs.length) (h1:ws.all V.one=true)
  (k:∀h',At h' b o (o5 vs p ws)→h'.bX=h.bX→Fix (·≠b) h h'→Q (.int .i64 m) h'):ej (r1 (qO E h t (.slice b (o+p) n c) x)) Q:=by
 have aa:=a;obtain ⟨tt,N,d,e',kk,q1,q2⟩:=a;have hln:iu (.slice b (o+p) n c)=some n:=rfl;have hmin:Nat.min m n=m:=Nat.min_eq_left hm;have hc':cX E h ei.size m x=some ws:=by rw [hsz];exact hc
 simp only [qO,ht,hd,he,hln,hl,hmin,hc']
 rcases hv:ws with _|⟨v0,vr⟩
 ·simp only [gZ,bo,jz];refine k h ?_ rfl (Fix.refl _ _);rw [hv];have:o5 vs p []=vs:=by unfold o5;simp
  rw [this];exact aa
 ·have hN:=aa.room q1 (by rw [hv] at hw;simp at hw;omega);have hle:Nat.ble (o+p+ws.length) N=true:=cQ (by omega);simp only [gZ,q1,←hv,hle,h1,Bool.and_self,cond_true,bo,jz];have hlen:p+ws.length≤vs.length:=by omega
  refine k _ ⟨tt.putL (o+p) ws,N,d,e',kk,?_,?_⟩ rfl ⟨aI _,fun c hc=>?_⟩
  ·simp only [H.put,T.get_set,if_true]
  ·rw [fO hlen];refine eu (fO hlen) (fun j hj=>?_);rw [jo (by omega),mR hlen]
   by_cases hj2:p≤j∧j<p+ws.length
   ·rw [if_pos ⟨by omega,by omega⟩,if_pos hj2]
    congr 1;omega
   ·rw [if_neg (by omega),if_neg hj2];exact (du q2).2 j hj
  ·simp only [H.put,T.get_set];rw [if_neg hc]
def Whole (s:V) (n:Nat):Prop:=s=.nils∨∃b c,s=.slice b 0 n c∧(c=.lit n∨c=.opn 0 0)
theorem Buf.whole {e sz n:Nat} {s:V} (a:Buf E h e sz s n vs):Whole s n:=by
 cases a with
 | nil=>exact .inl rfl
 | lit=>exact .inr ⟨_,_,rfl,.inl rfl⟩
 | opn=>exact .inr ⟨_,_,rfl,.inr rfl⟩
theorem Whole.cap {n:Nat} {c:Cp} (h:c=.lit n∨c=.opn 0 0):∀m,c=.lit m→n≤m:=fun m e=>by
 rcases h with h|h
 ·rw [h] at e;injection e with e;omega
 ·rw [h] at e;cases e
theorem sB {t e sz n l:Nat} {c:Cp} {i:TI} {k:IntKind} (ht:E.tys.get t=some i) (hd:i.desc=.slice e) (hs:dy E e=some sz) (hc:c=.lit n∨c=.opn 0 0) (hl:l<n) :
  ∃c',eL E t (.slice b o n c) (some (.int k l)) none none=some (.slice b (o+l * sz) (n - l) c'):=by
 have h1:Nat.ble l n=true:=cQ (by omega);have h2:Nat.ble n n=true:=cQ (aI _)
 rcases hc with rfl|rfl
 ·refine ⟨.lit (n - l),?_⟩;simp only [eL,ht,hd,hs,iM,gB,fW,bQ,h1,h2,cond_true,j6,kI (show n≠l by omega),cond_false]
 ·cases l with
  | zero =>
   refine ⟨.opn 0 0,?_⟩;simp only [eL,ht,hd,hs,iM,gB,fW,bQ,h1,h2,cond_true,j6,Nat.zero_mul,Nat.add_zero,Nat.sub_zero]
  | succ l =>
   refine ⟨.opn (0+(l+1)) o,?_⟩;simp only [eL,ht,hd,hs,iM,gB,fW,bQ,h1,h2,cond_true,j6]
end
section
variable {E : Env}
def dG:Nat→List (List UInt8×V)→List (V×V×Nat)
 | _,[]=>[]
 | i,p::r=>(.str p.1,p.2,i)::dG (i+1) r
def Mq (h:H) (b:Nat) (L:List (List UInt8×V)):Prop:=h.t.get b=some (.map (dG 0 L) L.length)
theorem rR:∀(n:Nat) (L:List (List UInt8×V)),(dG n L).length=L.length
 | _,[]=>rfl
 | n,_::r=>by simp only [dG,aO,rR (n+1) r]
theorem wa:∀(n:Nat) (L:List (List UInt8×V)),(dG n L).map (fun e=>(e.1,e.2.1))=L.map (fun p=>(V.str p.1,p.2))
 | _,[]=>rfl
 | n,_::r=>by simp only [dG,bI,wa (n+1) r]
theorem sx:∀(n:Nat) (L:List (List UInt8×V)) (j:Nat),(dG n L)[j]?=(L[j]?).map fun p=>(V.str p.1,p.2,n+j)
 | _,[],j=>by simp [dG]
 | n,p::r,0=>by simp [dG]
 | n,p::r,j+1=>by
  simp only [dG,List.getElem?_cons_succ,sx (n+1) r j];rw [show n+1+j=n+(j+1) by omega]
theorem Mq.mp {h:H} {b:Nat} {L:List (List UInt8×V)} (m:Mq h b L):Mp h b L:=⟨_,_,m,wa 0 L⟩
theorem Mq.fix {h h':H} {K:Nat→Prop} {b:Nat} {L:List (List UInt8×V)} (m:Mq h b L) (f:Fix K h h') (hb:K b:=by omega):Mq h' b L:=by
 unfold Mq;rw [f.ca b hb];exact m
theorem EY {h:H} {k:List UInt8}:∀{L:List (List UInt8×V)} {n i:Nat},
  match lk k L with
  | none=>gU E h .string (.str k) (dG n L) i=some none∧∀(v:V),dG n L++[(V.str k,v,n+L.length)]=dG n (ins k v L)∧(ins k v L).length=L.length+1
  | some v=>∃j,gU E h .string (.str k) (dG n L) i=some (some (i+j,v,n+j))∧∀x,pD (dG n L) j (V.str k,x,n+j)=dG n (ins k x L)∧(ins k x L).length=L.length
 | [],n,i=>⟨rfl,fun _=>⟨rfl,rfl⟩⟩
 | p::L,n,i=>by
  have ih:=EY (h:=h) (k:=k) (L:=L) (n:=n+1) (i:=Nat.succ i);have hk:va E h .string (.str k) (.str p.1)=some (k==p.1):=rfl
  by_cases hp:p.1=k
  ·have:lk k (p::L)=some p.2:=by unfold lk;rw [if_pos hp]
   rw [this]
   refine ⟨0,?_,fun x=>?_⟩
   ·simp only [dG,gU];rw [hk,show (k==p.1)=true by simp [hp]];rfl
   ·unfold ins;rw [if_pos hp];exact ⟨rfl,rfl⟩
  ·have:lk k (p::L)=lk k L:=by conv=>lhs;unfold lk;rw [if_neg hp]
   have hi:∀x,ins k x (p::L)=p::ins k x L:=fun x=>by conv=>lhs;unfold ins;rw [if_neg hp]
   have hf:gU E h .string (.str k) (dG n (p::L)) i=gU E h .string (.str k) (dG (n+1) L) (Nat.succ i):=by
    simp only [dG]
    conv=>lhs;unfold gU
    rw [hk,show (k==p.1)=false by simpa using Ne.symm hp]
   rw [this,hf]
   cases hl:lk k L with
   | none =>
    rw [hl] at ih;refine ⟨ih.1,fun v=>?_⟩;obtain ⟨q1,q2⟩:=ih.2 v;rw [hi];simp only [dG,List.cons_append,aO,q2,and_true];rw [←q1,show n+(L.length+1)=n+1+L.length by omega]
   | some v =>
    rw [hl] at ih;obtain ⟨j,q1,q2⟩:=ih;refine ⟨j+1,by rw [q1,show Nat.succ i+j=i+(j+1) by omega,show n+1+j=n+(j+1) by omega],fun x=>?_⟩;rw [hi];obtain ⟨r1,r2⟩:=q2 x;simp only [dG,pD,aO,r2,and_true];rw [←r1,show n+1+j=n+(j+1) by omega]
section
variable {h : H} {b ty kt et : Nat} {L : List (List UInt8 × V)} {i ki ei : TI} {k : List UInt8}
theorem jX {v:V} {Q:V→H→Prop} (m:Mq h b L) (ht:E.tys.get ty=some i) (hd:i.desc=.map kt et) (hk:E.tys.get kt=some ki) (hkd:ki.desc=.string) (he:E.tys.get et=some ei)
  (q:∀h',Mq h' b (ins k v L)→h'.bX=h.bX→Fix (·≠b) h h'→Q un h'):ej (rh (iX E h ty (.map b) (.str k) v)) Q:=by
 have m':h.t.get b=some (.map (dG 0 L) L.length):=m;have:=EY (E:=E) (h:=h) (k:=k) (L:=L) (n:=0) (i:=0);have fx:∀x,Fix (·≠b) h (h.put b x):=fun x=>⟨aI _,fun c hc=>by simp only [H.put,T.get_set];rw [if_neg hc]⟩;simp only [iX,qB,ht,hd,hk,he,hkd,qx,cond_true,m']
 cases hl:lk k L with
 | none =>
  rw [hl] at this;obtain ⟨q1,q2⟩:=this;simp only [q1,pE];refine q _ ?_ rfl (fx _);obtain ⟨r1,r2⟩:=q2 v;rw [aH] at r1;unfold Mq;simp only [H.put,T.get_set,if_true,r1,r2]
 | some w =>
  rw [hl] at this;obtain ⟨j,q1,q2⟩:=this;rw [aH] at q1 q2;simp only [q1,pE];refine q _ ?_ rfl (fx _);obtain ⟨r1,r2⟩:=q2 v;unfold Mq;simp only [H.put,T.get_set,if_true,aH,r1,r2]
theorem px {fr:Fr} {d:Option Nat} {ty t:Nat} {p:String} {a:Array Edge} {g:Option (Nat×Bool)} {Q:V→H→Prop}
  (q:∀h',Mq h' h.bX []→h'.bX=h.bX+1→Fix (·<h.bX) h h'→Q (.map h.bX) h'):WOp E fr h ⟨d,.makeMap ty none,t,p,a,g⟩ Q:=by
 show ej (fQ (.map h.bX,{t:=h.t.set h.bX (.map [] 0),bX:=Nat.succ h.bX})) Q;rw [tz];exact q _ (by unfold Mq;simp only [T.get_set,if_true];rfl) rfl ⟨Nat.le_succ _,fun c hc=>by simp only [T.get_set];rw [if_neg (Nat.ne_of_lt hc)]⟩
theorem w_range {fr:Fr} {d:Option Nat} {t:Nat} {p:String} {a:Array Edge} {g:Option (Nat×Bool)} {Q:V→H→Prop} {x:Operand}:WOp E fr h ⟨d,.range ty x,t,p,a,g⟩ Q=ej (r1 ((opd fr x).bind fun u=>ug E h ty u)) Q:=by
 simp only [WOp,opV]
 cases opd fr x<;>rfl
def I2 (h:H) (s:Bool):Option V→R (V×H)
 | none=>none
 | some u=>zd h u s
theorem w_next {fr:Fr} {d:Option Nat} {t:Nat} {p:String} {a:Array Edge} {g:Option (Nat×Bool)} {Q:V→H→Prop} {x:Operand} {s:Bool}:WOp E fr h ⟨d,.next x s,t,p,a,g⟩ Q=ej (I2 h s (opd fr x)) Q:=by
 simp only [WOp,opV,I2]
 cases opd fr x<;>rfl
def Itr (h:H) (b m n:Nat) (seen:List Nat):Prop:=h.t.get b=some (.mapIter (some m) n seen n)
theorem Itr.fix {h h':H} {K:Nat→Prop} {b m n:Nat} {seen:List Nat} (a:Itr h b m n seen) (f:Fix K h h') (hb:K b:=by omega):Itr h' b m n seen:=by
 unfold Itr;rw [f.ca b hb];exact a
theorem Gc {Q:V→H→Prop} (m:Mq h b L) (ht:E.tys.get ty=some i) (hd:i.desc=.map kt et)
  (q:∀h',Itr h' h.bX b L.length []→h'.bX=h.bX+1→Fix (·<h.bX) h h'→Q (.ptr h.bX 0) h'):ej (r1 (ug E h ty (.map b))) Q:=by
 have m':h.t.get b=some (.map (dG 0 L) L.length):=m;simp only [ug,ht,hd,m',H.new,jz];exact q _ (by unfold Itr;simp only [T.get_set,if_true]) rfl ⟨Nat.le_succ _,fun c hc=>by simp only [T.get_set];rw [if_neg (Nat.ne_of_lt hc)]⟩
theorem qA {h:H} {b m since:Nat} {seen:List Nat} {es:List (V×V×Nat)} {c:Nat} {x:V×H}:∀{l:List (Option (V×V×Nat))},x∈jJ h b m since seen es c l →
  (none∈l∧x=(.tuple [.bool false],h))∨∃k v born,some (k,v,born)∈l∧x=(.tuple [.bool true,k,v],h.put b (.mapIter (some m) since (seen++[born]) c))
 | [],hx=>by cases hx
 | none::r,hx=>by
  simp only [jJ] at hx
  rcases aW.1 hx with e|hx
  ·exact .inl ⟨aT ..,e⟩
  ·rcases qA hx with ⟨q1,q2⟩|⟨k,v,n,q1,q2⟩
   ·exact .inl ⟨aM _ q1,q2⟩
   ·exact .inr ⟨k,v,n,aM _ q1,q2⟩
 | some (k,v,n)::r,hx=>by
  simp only [jJ] at hx
  rcases aW.1 hx with e|hx
  ·exact .inr ⟨k,v,n,aT ..,e⟩
  ·rcases qA hx with ⟨q1,q2⟩|⟨k,v,n,q1,q2⟩
   ·exact .inl ⟨aM _ q1,q2⟩
   ·exact .inr ⟨k,v,n,aM _ q1,q2⟩
theorem Di {e:V×V×Nat} (he:e∈dG 0 L):∃(j:Nat) (hj:j<L.length),e=(.str L[j].1,L[j].2,j):=by
 obtain ⟨j,hj⟩:=List.getElem?_of_mem he;rw [sx] at hj
 have hlt:j<L.length:=by
  rcases Nat.lt_or_ge j L.length with q|q
  ·exact q
  ·rw [List.getElem?_eq_none q] at hj;cases hj
 rw [List.getElem?_eq_getElem hlt] at hj;simp only [bo,Option.some.injEq,aH] at hj;exact ⟨j,hlt,hj.symm⟩
theorem H2 {m:Nat} {seen:List Nat} {Q:V→H→Prop} (hb:Itr h b m L.length seen) (hm:Mq h m L)
  (k1:∀j (hj:j<L.length),j∉seen→∀h',Itr h' b m L.length (seen++[j])→h'.bX=h.bX→Fix (·≠b) h h'→Q (.tuple [.bool true,.str L[j].1,L[j].2]) h')
  (k0:(∀j,j<L.length→j∈seen)→Q (.tuple [.bool false]) h):ej (zd h (.ptr b 0) false) Q:=by
 have hb':h.t.get b=some (.mapIter (some m) L.length seen L.length):=hb;have hm':h.t.get m=some (.map (dG 0 L) L.length):=hm
 have hguard:((!seen.isEmpty && !(dG 0 L).isEmpty)&&(dG 0 L).all (fun e=>Nat.ble L.length e.2.2))=false:=by
  cases L with
  | nil=>simp [dG]
  | cons p r =>
   have:(dG 0 (p::r)).all (fun e=>Nat.ble (p::r).length e.2.2)=false:=by
    simp [dG]
   rw [this,Bool.and_false]
 simp only [zd,hb',hm',hguard,cond_false];show ∀x∈jJ _ _ _ _ _ _ _ _,Q x.1 x.2;intro x hx
 rcases qA hx with ⟨q1,rfl⟩|⟨k,v,n,q1,rfl⟩
 ·refine k0 fun j hj=>?_
  cases hdec:seen.contains j with
  | true=>simpa using hdec
  | false =>
   exfalso
   have hmem:(V.str L[j].1,L[j].2,j)∈dG 0 L:=by
    have:=sx 0 L j;rw [List.getElem?_eq_getElem hj,bo,aH] at this;exact bR this
   have hold:(V.str L[j].1,L[j].2,j)∈((dG 0 L).filter fun e => !seen.contains e.2.2).filter fun e=>Nat.blt e.2.2 L.length:=by
    refine List.mem_filter.2 ⟨List.mem_filter.2 ⟨hmem,by simp only [hdec,bE]⟩,by simpa using hj⟩
   rcases bN.1 q1 with q|q
   ·cases he:(((dG 0 L).filter fun e => !seen.contains e.2.2).filter fun e=>Nat.blt e.2.2 L.length).isEmpty with
    | true=>rw [List.isEmpty_iff.1 he] at hold;cases hold
    | false=>rw [he] at q;cases q
   ·obtain ⟨_,_,e⟩:=bP.1 q
    cases e
 ·rcases bN.1 q1 with q|q
  ·cases he:(((dG 0 L).filter fun e => !seen.contains e.2.2).filter fun e=>Nat.blt e.2.2 L.length).isEmpty with
   | true=>rw [he] at q;simp at q
   | false=>rw [he] at q;cases q
  ·obtain ⟨e,he,e2⟩:=bP.1 q;injection e2 with e2;subst e2
   have hleft:(k,v,n)∈(dG 0 L).filter fun e => !seen.contains e.2.2:=by
    rcases bN.1 he with q|q
    ·exact (List.mem_filter.1 q).1
    ·exact (List.mem_filter.1 q).1
   obtain ⟨r1,r2⟩:=List.mem_filter.1 hleft;obtain ⟨j,hj,e⟩:=Di r1
   obtain ⟨rfl,rfl,rfl⟩:k=V.str L[j].1∧v=L[j].2∧n=j:=by
    simp only [Prod.mk.injEq] at e;exact e
   refine k1 n hj (by simpa using r2) _ ?_ rfl ⟨aI _,fun c hc=>by simp only [H.put,T.get_set];rw [if_neg hc]⟩;unfold Itr;simp only [H.put,T.get_set,if_true]
theorem AV:∀(n:Nat) (L:List (List UInt8×V)),yL (dG n L)=some (L.map (·.1))
 | _,[]=>rfl
 | n,p::r=>by simp only [dG,yL,AV (n+1) r,bI]
theorem vZ:∀(n:Nat) (L:List (List UInt8×V)),qZ n (dG n L)=true
 | _,[]=>rfl
 | n,p::r=>by
  simp only [dG,qZ,aU];exact ⟨by simp,vZ (n+1) r⟩
theorem tw (l:List (List UInt8)):(dK l).length=l.length:=List.length_mergeSort l
theorem wf_keys {f gk e m:Nat} {Q:V→H→Prop} (h1:E.fns.get f=none) (h2:vf f E.exts=none) (h3:E.sw.get f=none) (h4:E.dn.contains f=false) (hsk:A9 f E.sk [gk]=some e) (he:E.tys.get e=some i) (hs:i.size=1)
  (hb:Has h b [.map m]) (hm:Mq h m L) (hnd:(L.map (·.1)).Nodup) (hlen:L.length * 16≤140737488355328) (hkl:∀p∈L,p.1.length≤140737488355328)
  (q:∀v h',Buf E h' e 1 v L.length ((dK (L.map (·.1))).map V.str)→In (fun b=>h.bX≤b∧b<h'.bX) v→Fix (·<h.bX) h h'→Q v h'):WF E f [.func gk [] [.ptr b 0]] h Q:=by
 obtain ⟨t,d,el,kd,hb1,hb2⟩:=hb
 have hc0:eH t 1 d 0=some (.map m):=by
  obtain ⟨_,q2⟩:=du hb2;simpa using q2 0 (by simp)
 have hm':h.t.get m=some (.map (dG 0 L) L.length):=hm
 have hok:(Nat.beq i.size 1&&Ag (dG 0 L) L.length (L.map (·.1)))=true:=by
  simp only [Ag,aU,decide_eq_true_eq,rR];refine ⟨by rw [hs];rfl,⟨⟨⟨vZ 0 L,by simp⟩,hnd⟩,cQ hlen⟩,bH.2 fun k hk=>?_⟩;obtain ⟨p,hp,rfl⟩:=bP.1 hk;exact cQ (hkl p hp)
 have hrun:∃x,zk E h f [.func gk [] [.ptr b 0]]=some x∧Q x.1 x.2:=by
  unfold zk;simp only [hsk,he,hb1,aO,bD,aH,hc0,hm',AV,hok,cond_true]
  cases hL:L with
  | nil =>
   have e0:(dK (([]:List (List UInt8×V)).map (·.1))).map V.str=[]:=by simp [dK]
   exact ⟨_,rfl,q _ _ (by rw [hL,e0];exact .nil) .nils (Fix.refl _ _)⟩
  | cons p r =>
   refine ⟨_,rfl,?_⟩;have hlenS:((dK ((p::r).map (·.1))).map V.str).length=(p::r).length:=by simp only [bO,tw]
   refine q _ _ ?_ ?_ ?_
   ·rw [hL];simp only [bI] at hlenS ⊢;simp only [grow,List.nil_append,bO,aO]
    refine .opn (t:=T.putL .lf 0 ((dK (p.1::r.map (·.1))).map V.str)) (d:=[.nilp]) (k:=1) ?_ (.inl rfl) ?_
    ·have hl:(row h e ((dK (p.1::r.map (·.1))).map V.str) 1).1=h.bX:=rfl;rw [hl,jH,if_pos rfl,hlenS,aO,bL]
    ·rw [bL];refine eu (by rw [hlenS];rfl) fun j hj=>?_;have hj2:j<((dK (p.1::r.map (·.1))).map V.str).length:=by rw [hlenS];exact hj
     unfold eH;rw [aH,gF hj,cond_true,T.get_putL,if_pos ⟨Nat.zero_le _,by omega⟩,Nat.sub_zero,List.getElem?_eq_getElem hj2]
   ·intro b' o n c e'
    have:b'=h.bX:=by
     simp only [grow] at e';injection e' with e1 e2;exact e1.symm
    subst this;exact ⟨aI _,Nat.lt_succ_self _⟩
   ·exact kP fun _ h=>h
 obtain ⟨x,x1,x2⟩:=hrun;exact WF.keys h1 h2 h3 h4 x1 x2
end
end
end Go.Ev
namespace Go.Ev
open Go Go.Proofs Go.RowKit Go.Maps Go.Sort Go.Shelf
theorem BX {P:Program} {rs rk rm:Ren} (Ls:SlLaysZ.n6 P rs) (Lk:SlLaysZ.n10 P rk) (Lm:SlLaysM.n6 P rm) (h9:rs.f 9=rm.f 6):zH P (rs.f 6) (rk.f 10) (rs.t 26):=by
 refine ⟨Ls.f6.enters rfl,?_⟩;intro w B b es clock ks hcell hb hst hkeys hlen hsz;refine (callsIn_wide (n:=5)).1 ?_
 have hs:AnyZ.SortsIn P rs Fence.wide 4:=by
  unfold AnyZ.SortsIn;rw [h9];exact ⟨fun blk off cap ss W hH hblk hsz=>callsIn_wide.2 (AnyM.slices_Sort_string Lm blk off cap ss W hH hblk hsz),fun p cap W=>callsIn_wide.2 (AnyM.slices_Sort_string_none Lm p cap W)⟩
 let R:Value→Option (DataW Unit×List MemPlace):=fun _=>some (.nil,[])
 have hkl:∀x∈es.toList,∃s:List UInt8,x.key=.string ⟨s.toArray⟩∧s.length≤140737488355328:=by
  intro x hx;have:x.key∈es.toList.map (·.key):=bP.2 ⟨x,hx,rfl⟩;rw [hkeys] at this;obtain ⟨s,hs,e⟩:=bP.1 this;exact ⟨s,e.symm,hlen s hs⟩
 have hrd:∀x∈es.toList,∀s:List UInt8,x.key=.string ⟨s.toArray⟩→s.length≤140737488355328→WideElems.rd P (rk.t 26) R x=some (.string s,.nil):=by
  intro x _ s e hl
  have hk:keyOf P (rk.t 26) x.key=some (.string s):=by
   simp only [keyOf,Lk.t26,mapKey,e,ByteArray.size,List.size_toArray];rw [if_pos (by unfold maxLen;omega)]
  simp only [WideElems.rd,hk,bQ,R,bo]
 have hfit:WideElems.Fit P (rk.t 26) R es clock:=⟨by unfold maxLen;omega,hst,fun x hx=>by
  obtain ⟨s,e,hl⟩:=hkl x hx
  exact ⟨_,hrd x hx s e hl⟩⟩
 have hown:w.ownsMap P (rk.t 26) R b es.size (.map ((es.toList.map (WideElems.rg P (rk.t 26) R)).foldr DataW.insert [])):=⟨es,clock,hb,hfit,aI _,rfl⟩
 have hsize:Maps.size (.map ((es.toList.map (WideElems.rg P (rk.t 26) R)).foldr DataW.insert []):DataW Unit)=es.size:=by
  rw [Maps.size_eq,length_sorted];simp
 have hB:B<w.heap.size:=by
  unfold World.cell? at hcell
  rcases Nat.lt_or_ge B w.heap.size with q|q
  ·exact q
  ·simp [Array.getElem?_eq_none q] at hcell
 have hseq:=AnyZ.keys_gives Lk Fence.wide 2 trivial rfl (by omega) B b es.size _ w hB hcell hown;have cS:=AnyZ.sorted_in Ls Fence.wide 5 trivial trivial trivial trivial rfl (by omega) hs (by rw [h9];exact Lm.f6.enters rfl) (rk.f 10) #[.pointer (some ⟨B,0,none⟩)] trivial (Lk.f10.enters rfl) _ _ (by rw [hsize];unfold maxLen;omega) (by rw [hsize];exact hsz) w hseq;refine cS.mono ?_
 rintro e w' ⟨v,ss,rfl,hS,hrow,hnil,hbel⟩
 have hks:(es.toList.map (WideElems.rg P (rk.t 26) R)).map (fun p=>strOf p.1)=ks:=by
  have h1:(es.toList.map (WideElems.rg P (rk.t 26) R)).map (fun p=>strOf p.1)=es.toList.map fun x=>match x.key with|.string s=>s.data.toList|_=>[]:=by
   rw [List.map_map];refine List.map_congr_left fun x hx=>?_;obtain ⟨s,e,hl⟩:=hkl x hx;simp only [Function.comp,WideElems.rg_of (hrd x hx s e hl),strOf,e]
  have h2:(es.toList.map fun x=>match x.key with|.string s=>s.data.toList|_=>([]:List UInt8))=(es.toList.map (·.key)).map fun v=>match v with|.string s=>s.data.toList|_=>[]:=by rw [List.map_map];rfl
  rw [h1,h2,hkeys,List.map_map]
  conv=>rhs;rw [←List.map_id ks]
  exact List.map_congr_left fun s _=>rfl
 have hperm:ss.Perm ks:=by
  refine hS.trans ?_;show ((_:List (Lit×DataW Unit)).map fun p=>strOf p.1).Perm ks;rw [←hks];exact (WideShapes.sorted_perm _).map _
 have hl:=hperm.length_eq
 refine ⟨v,rfl,?_,?_,hbel⟩
 ·have e1:dK ks=ss.mergeSort (fun x y=>decide (x≤y)):=(mergeSort_of_perm hperm).symm;rw [e1,←hl];exact hrow
 ·rw [hnil]
  constructor
  ·intro e;rw [e] at hl;exact List.eq_nil_of_length_eq_zero hl.symm
  ·intro e;rw [e] at hl;exact List.eq_nil_of_length_eq_zero hl
end Go.Ev
