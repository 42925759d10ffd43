/- The world's memory, seen as memory that no one writes. -/
import Derived.Test.YtloblhhnlaaajaaDoorY10
set_option linter.unusedVariables false
set_option linter.unusedSimpArgs false
set_option linter.defProp false
namespace Go.Ev
open Go
def tg (k:Nat):Value→V
 | .bool b=>.bool b
 | .int j n=>.int j n
 | .string s=>.str s.data.toList
 | .pointer none=>.nilp
 | .slice none 0 0=>.nils
 | .slice (some a) n c=>if n≤c then .gsl a n c else .sym k
 | .agg _=>un
 | .tuple _=>un
 | _=>.sym k
theorem Hs {ρ:Rho} {μ:Mu} {k:Nat} {v:Value} (h1:(tg k v).one=true) (hk:(∀cs,v≠.agg cs)→(∀vs,v≠.tuple vs)→ρ k=v):conc ρ μ (tg k v)=some v:=by
 have hp:(∀cs,v≠.agg cs)∧(∀vs,v≠.tuple vs):=by
  constructor<;>(rintro x rfl;simp [tg,un,V.one] at h1)
 have hk:=hk hp.1 hp.2;unfold tg
 split
 ·rfl
 ·rfl
 ·rfl
 ·rfl
 ·rfl
 ·split
  ·rename_i h;simp only [conc,if_pos h]
  ·simp only [conc,hk]
 ·exact absurd rfl (hp.1 _)
 ·exact absurd rfl (hp.2 _)
 ·simp only [conc];rw [hk]
def BF:Obj→Nat
 | .cells arr _ _=>arr.size
 | _=>0
def wide (W:World):Nat:=(W.heap.toList.map BF).sum+1
theorem IR {W:World} {g:Nat} {o:Obj} (h:W.heap[g]?=some o):BF o<wide W:=by
 have hm:o∈W.heap.toList:=by
  rw [←Array.getElem?_toList] at h;exact bR h
 have:BF o≤(W.heap.toList.map BF).sum:=by
  clear h
  generalize W.heap.toList=l at hm
  induction l with
  | nil=>cases hm
  | cons x r ih =>
   simp only [bI,List.sum_cons]
   rcases aW.1 hm with rfl|hm
   ·omega
   ·have:=ih hm;omega
 unfold wide;omega
def AE (W:World) (g:Nat):Nat→List Value→List V
 | _,[]=>[]
 | j,v::r=>tg (g * wide W+j) v::AE W g (j+1) r
theorem tX (W:World) (g:Nat):∀(l:List Value) (j i:Nat),(AE W g j l)[i]?=l[i]?.map (tg (g * wide W+(j+i)))
 | [],j,i=>by simp [AE]
 | v::r,j,0=>by simp [AE]
 | v::r,j,i+1=>by
  simp only [AE,List.getElem?_cons_succ];rw [tX W g r (j+1) i,show j+1+i=j+(i+1) by omega]
def Gt (W:World):Rho:=fun k=>match W.heap[k / wide W]? with
 | some (.cells arr _ _)=>(match arr[k % wide W]? with
  | some (.agg _)=>.bool false
  | some (.tuple _)=>.bool false
  | some v=>v
  | none=>.bool false)
 | _=>.bool false
theorem C3 (W:World):Plain (Gt W):=by
 intro i;have fb:(∀cs:Array Value,Value.bool false≠.agg cs)∧(∀vs:Array Value,Value.bool false≠.tuple vs):=by constructor<;>(intro _ h;cases h)
 unfold Gt
 split
 ·split
  ·exact fb
  ·exact fb
  ·rename_i v h1 h2 h3;exact ⟨fun cs h=>h1 cs h,fun cs h=>h2 cs h⟩
  ·exact fb
 ·exact fb
theorem rhoW_at {W:World} {g j:Nat} {arr:Array Value} {e:TypeId} {fz:Nat×Nat} {v:Value} (h:W.heap[g]?=some (.cells arr e fz)) (hj:arr[j]?=some v) (h1:∀cs,v≠.agg cs) (h2:∀vs,v≠.tuple vs):Gt W (g * wide W+j)=v:=by
 have hlt:j<wide W:=by
  have:=IR h;have:j<arr.size:=(Array.getElem?_eq_some_iff.1 hj).1;simp only [BF] at *;omega
 have hpos:0<wide W:=by omega
 have e1:(g * wide W+j) / wide W=g:=by
  rw [Nat.mul_comm,Nat.mul_add_div hpos,Nat.div_eq_of_lt hlt,Nat.add_zero]
 have e2:(g * wide W+j) % wide W=j:=by
  rw [Nat.mul_comm,Nat.mul_add_mod,Nat.mod_eq_of_lt hlt]
 unfold Gt;rw [e1,e2,h];simp only [hj]
def gN (W:World):Nat→T (List V)
 | 0=>.lf
 | n+1=>match W.heap[n]? with
  | some (.cells arr _ _)=>(gN W n).set n (AE W n 0 arr.toList)
  | _=>gN W n
def gW (W:World):T (List V):=gN W W.heap.size
theorem Al (W:World):∀(n g:Nat),(gN W n).get g=if g<n then (match W.heap[g]? with|some (.cells arr _ _)=>some (AE W g 0 arr.toList)|_=>none) else none
 | 0,g=>by simp [gN,T.get_lf]
 | n+1,g=>by
  simp only [gN]
  by_cases e:g=n
  ·subst e
   split
   ·rename_i arr _ _ h;simp [T.get_set]
   ·rename_i h;rw [Al W g g,if_neg (by omega),if_pos (by omega)]
  ·have:(g<n+1)↔g<n:=by omega
   split
   ·rw [T.get_set,if_neg e,Al W n g];simp only [this]
   ·rw [Al W n g];simp only [this]
theorem Du (W:World) (g:Nat):(gW W).get g=match W.heap[g]? with|some (.cells arr _ _)=>some (AE W g 0 arr.toList)|_=>none:=by
 unfold gW;rw [Al]
 split
 ·rfl
 ·rename_i h;rw [Array.getElem?_eq_none (by omega)]
theorem globsW {E:Env} (W:World):vq {E with globs:=gW W} (Gt W) W:=by
 intro g cs hg;have hg:(gW W).get g=some cs:=hg;rw [Du] at hg
 split at hg
 ·rename_i arr e fz h;injection hg with hg;subst hg;refine ⟨arr,e,fz,h,fun j v hj h1=>?_⟩;rw [tX] at hj;obtain ⟨x,hx,rfl⟩:=aR.1 hj;have hx':arr[j]?=some x:=by simpa using hx
  rw [aH] at h1 ⊢;exact ⟨x,Hs h1 fun q1 q2=>rhoW_at h hx' q1 q2,hx'⟩
 ·cases hg
theorem EW {W:World} {g:Nat} {arr:Array Value} {e:TypeId} {fz:Nat×Nat} {cs:List V} (h:W.heap[g]?=some (.cells arr e fz)) (hc:arr.toList.map (tg 0)=cs) (hs:∀k v,v∈arr.toList→tg k v=tg 0 v):(gW W).get g=some cs:=by
 rw [Du,h];simp only [Option.some.injEq];rw [←hc];apply List.ext_getElem?;intro i;rw [tX,List.getElem?_map]
 cases hi:arr.toList[i]? with
 | none=>rfl
 | some v=>simp only [bo];rw [hs _ _ (bR hi)]
theorem cellW {W:World} {a:Addr} {v:Value} (h:W.cell? a=some v):a.spot=none∧∃cs,(gW W).get a.block=some cs∧∃k,cs[a.off]?=some (tg k v):=by
 unfold World.cell? at h
 split at h
 ·rename_i arr e fz hb;obtain ⟨g,o,sp⟩:=a
  cases sp with
  | some s=>simp at h
  | none =>
   refine ⟨rfl,AE W g 0 arr.toList,?_,g * wide W+(0+o),?_⟩
   ·rw [Du];simp only at hb;rw [hb]
   ·rw [tX];simp only [Option.isSome_none,Bool.false_eq_true,if_false] at h;rw [Array.getElem?_toList,h];rfl
 ·cases h
structure Fix (K:Nat→Prop) (h h':H):Prop where
 bX:h.bX≤h'.bX
 ca:∀b,K b→h'.t.get b=h.t.get b
theorem Fix.refl (K:Nat→Prop) (h:H):Fix K h h:=⟨aI _,fun _ _=>rfl⟩
theorem Fix.trans {K:Nat→Prop} {a b c:H} (h:Fix K a b) (k:Fix K b c):Fix K a c:=⟨Nat.le_trans h.bX k.bX,fun x hx=>(k.ca x hx).trans (h.ca x hx)⟩
theorem Fix.sub {K L:Nat→Prop} {a b:H} (h:Fix K a b) (k:∀x,L x→K x:=by (intro b hb;omega)):Fix L a b:=⟨h.bX,fun x hx=>h.ca x (k x hx)⟩
def In (K:Nat→Prop) (s:V):Prop:=∀b o n c,s=.slice b o n c→K b
def Out (K:Nat→Prop) (s:V):Prop:=∀b o n c,s=.slice b o n c→¬K b
theorem In.sub {K L:Nat→Prop} {s:V} (h:In K s) (k:∀x,K x→L x:=by (intro b hb;omega)):In L s:=fun b o n c e=>k b (h b o n c e)
theorem In.nils {K:Nat→Prop}:In K .nils:=fun _ _ _ _ e=>by cases e
theorem In.gsl {K:Nat→Prop} {a:Addr} {n c:Nat}:In K (.gsl a n c):=fun _ _ _ _ e=>by cases e
theorem du {t:T V} {n:Nat} {d:List V}:∀{m o:Nat} {vs:List V},dT t n d o m=some vs→vs.length=m∧∀j,j<m→eH t n d (o+j)=vs[j]?
 | 0,o,vs,h=>by simp [dT] at h;subst h;exact ⟨rfl,fun j hj=>absurd hj (Nat.not_lt_zero _)⟩
 | m+1,o,vs,h=>by
  simp only [dT] at h
  split at h
  ·cases h
  ·rename_i v hv
   split at h
   ·cases h
   ·rename_i r hr;injection h with h;subst h;obtain ⟨h1,h2⟩:=du hr;refine ⟨by simp [h1],fun j hj=>?_⟩
    cases j with
    | zero=>simpa using hv
    | succ j =>
     have:=h2 j (by omega);rw [show o+(j+1)=Nat.succ o+j by omega,this];rfl
theorem eu {t:T V} {n:Nat} {d:List V}:∀{m o:Nat} {vs:List V},vs.length=m→(∀j,j<m→eH t n d (o+j)=vs[j]?)→dT t n d o m=some vs
 | 0,o,vs,h,_=>by
  have:vs=[]:=by simpa using h
  subst this;rfl
 | m+1,o,[],h,_=>by simp at h
 | m+1,o,v::r,h,k=>by
  have h0:=k 0 (by omega);simp only [Nat.add_zero,List.getElem?_cons_zero] at h0
  have:=eu (t:=t) (n:=n) (d:=d) (m:=m) (o:=Nat.succ o) (vs:=r) (by simpa using h) (fun j hj=>by
   have:=k (j+1) (by omega);rw [show o+(j+1)=Nat.succ o+j by omega] at this
   simpa using this)
  simp only [dT,h0,this]
structure Sl (E:Env) (h:H) (sz:Nat) (s:V) (n:Nat) (vs:List V):Prop where
 len:iu s=some n
 cells:cX E h sz n s=some vs
 slice:∀x,s≠.str x
 cap:(∀b o m c,s=.slice b o m (.lit c)→m≤c)∧(∀a m c,s=.gsl a m c→m≤c)
section
variable {E : Env} {K : Nat → Prop} {h h' : H} {sz n : Nat} {s : V} {vs : List V}
theorem Sl.fix (a:Sl E h sz s n vs) (hs:In K s) (hf:Fix K h h'):Sl E h' sz s n vs:=by
 refine ⟨a.len,?_,a.slice,a.cap⟩;have hc:=a.cells;unfold cX at hc ⊢
 split at hc
 ·exact hc
 ·rename_i b o m c;rw [hf.ca b (hs _ _ _ _ rfl)];exact hc
 ·exact hc
 ·exact hc
 ·cases hc
theorem Sl.nil:Sl E h sz .nils 0 []:=⟨rfl,rfl,(fun _ e=>by cases e),(fun _ _ _ _ e=>by cases e),(fun _ _ _ e=>by cases e)⟩
theorem BW {k:Nat} {l vs:List V} (h:qE k l=some vs):l.length=k∧l.all V.one=true∧vs=l:=by
 unfold qE at h;obtain ⟨h1,h2⟩:=cI h;simp only [aU] at h1;injection h2 with h2;exact ⟨aS h1.1,h1.2,h2.symm⟩
theorem uw {k:Nat} {l:List V} (h1:l.length=k) (h2:l.all V.one=true):qE k l=some l:=by
 unfold qE;have:Nat.beq l.length k=true:=by rw [h1];simp
 rw [this,h2];rfl
theorem pA {a:Addr} {k:Nat} {vs:List V} (h:lG E a k=some vs) (hk:0<k):a.spot=none∧∃cs,E.globs.get a.block=some cs∧vs=(cs.drop a.off).take k∧vs.length=k∧vs.all V.one=true:=by
 unfold lG at h
 split at h
 ·omega
 ·split at h
  ·rename_i hs
   split at h
   ·rename_i cs hcs;obtain ⟨h1,h2,rfl⟩:=BW h;exact ⟨hs,cs,hcs,rfl,h1,h2⟩
   ·cases h
  ·cases h
theorem FO {a:Addr} {k:Nat} {vs:List V} (h:lG E a k=some vs):vs.length=k:=by
 rcases Nat.eq_zero_or_pos k with rfl|hk
 ·simp [lG] at h;subst h;rfl
 ·exact (pA h hk).2.choose_spec.2.2.1
theorem Sl.size (a:Sl E h sz s n vs):vs.length=n * sz:=by
 have hc:=a.cells;have hl:=a.len;unfold cX at hc
 split at hc
 ·simp only [iu] at hl;injection hl with hl;subst hl;injection hc with hc;subst hc;simp
 ·rename_i b o m c
  cases h0:Nat.beq (n * sz) 0 with
  | true=>rw [h0] at hc;injection hc with hc;subst hc;simpa using (aS h0).symm
  | false =>
   simp only [h0,cond_false] at hc;obtain ⟨_,hc⟩:=cI hc
   split at hc
   ·exact (du hc).1
   ·cases hc
 ·obtain ⟨_,hc⟩:=cI hc;exact FO hc
 ·exact absurd rfl (a.slice _)
 ·cases hc
theorem Sl.place (a:Sl E h sz s n vs) {t e k:Nat} {i ei:TI} (ht:E.tys.get t=some i) (hd:i.desc=.slice e) (he:E.tys.get e=some ei) (hsz:ei.size=sz) (hpos:0<sz) (hk:k<n) :
  ∃p,cK E t s (.int .i64 k)=some p∧∀h',(∀b o m c,s=.slice b o m c→h'.t.get b=h.t.get b) →
   cx E h' e p=bif ei.agg then some (.agg ((vs.drop (k * sz)).take sz)) else vs[k * sz]?:=by
 have hc:=a.cells;have hl:=a.len;have hlt:Nat.blt k n=true:=by simpa using hk
 have hbig:0<n * sz:=Nat.mul_pos (by omega) hpos;have hin:k * sz+sz≤n * sz:=by rw [←Nat.succ_mul];exact Nat.mul_le_mul_right _ hk
 unfold cX at hc
 split at hc
 ·simp only [iu] at hl;injection hl with hl;omega
 ·rename_i b o m c;simp only [iu] at hl;injection hl with hl;subst hl
  have h0:Nat.beq (m * sz) 0=false:=by
   cases hb:Nat.beq (m * sz) 0 with
   | false=>rfl
   | true=>have:=aS hb;omega
  simp only [h0,cond_false] at hc;obtain ⟨_,hc⟩:=cI hc
  split at hc
  ·rename_i T N d e' kk hb;obtain ⟨q1,q2⟩:=du hc
   refine ⟨.ptr b (o+k * sz),?_,fun h' hsame=>?_⟩
   ·simp [cK,ht,hd,fW,hlt,dy,he,hsz]
   ·simp only [cx,p6,he,hsame b _ _ _ rfl,hb]
    cases ei.agg with
    | true =>
     simp only [cond_true,hsz]
     rw [eu (vs:=(vs.drop (k * sz)).take sz) (by simp;omega) (fun j hj=>by
      rw [Nat.add_assoc,q2 _ (by omega),List.getElem?_take,if_pos hj,List.getElem?_drop])]
     rfl
    | false =>
     simp only [cond_false];exact q2 _ (by omega)
  ·cases hc
 ·rename_i ad m c;simp only [iu] at hl;injection hl with hl;subst hl;obtain ⟨_,hc⟩:=cI hc;obtain ⟨h1,cs,h2,h3,h4,h5⟩:=pA hc hbig
  refine ⟨.gp ad.block (ad.off+k * sz),?_,fun h' _=>?_⟩
  ·simp [cK,ht,hd,fW,hlt,dy,he,hsz,h1]
  ·have hget:∀j,j<sz→cs[ad.off+k * sz+j]?=vs[k * sz+j]?:=by
    intro j hj;rw [h3,List.getElem?_take,if_pos (by omega),List.getElem?_drop,Nat.add_assoc]
   simp only [cx,rX,he,h2]
   cases ei.agg with
   | true =>
    simp only [cond_true,hsz]
    have hsub:(cs.drop (ad.off+k * sz)).take sz=(vs.drop (k * sz)).take sz:=by
     apply List.ext_getElem?;intro j;rw [List.getElem?_take,List.getElem?_take]
     split
     ·rename_i hj;rw [List.getElem?_drop,List.getElem?_drop,hget j hj]
     ·rfl
    rw [hsub,uw (by simp;omega) (by
     rw [bH] at h5 ⊢;intro x hx
     exact h5 x (List.mem_of_mem_drop (List.mem_of_mem_take hx)))]
    rfl
   | false =>
    simp only [cond_false,jO];have:=hget 0 hpos;simp only [Nat.add_zero] at this;rw [this];have hlt2:k * sz<vs.length:=by omega
    rw [List.getElem?_eq_getElem hlt2];have h6:(vs[k * sz]).one=true:=bH.1 h5 _ (aP _);simp [h6]
 ·exact absurd rfl (a.slice _)
 ·cases hc
theorem Sl.lenB (a:Sl E h sz s n vs) {t:Nat} {i:TI} {e:Nat} (ht:E.tys.get t=some i) (hd:i.desc=.slice e) (h':H):Ev.lenB E h' t s=some (.int .i64 n):=by
 have hl:=a.len;unfold iu at hl
 split at hl
 ·injection hl with hl;subst hl;simp [Ev.lenB,ht,hd]
 ·injection hl with hl;subst hl;simp [Ev.lenB,ht,hd]
 ·injection hl with hl;subst hl;simp [Ev.lenB,ht,hd]
 ·exact absurd rfl (a.slice _)
 ·cases hl
theorem cQ {a b:Nat} (h:a≤b):Nat.ble a b=true:=Nat.ble_eq_true_of_le h
theorem uI {a b:Nat} (h:b<a):Nat.ble a b=false:=by
 cases hb:Nat.ble a b with
 | false=>rfl
 | true=>have:=aZ hb;omega
theorem gF {a b:Nat} (h:a<b):Nat.blt a b=true:=by simpa using h
theorem kI {a b:Nat} (h:a≠b):Nat.beq a b=false:=by
 cases hb:Nat.beq a b with
 | false=>rfl
 | true=>exact absurd (aS hb) h
end
theorem cw {E:Env} {t f:Nat} {i j:TI} {fs:Array Field} {fd:Field} (ht:E.tys.get t=some i) (hd:i.desc=.struct fs) (hf:fs.toList[f]?=some fd) (hj:E.tys.get fd.type=some j) (hz:0<j.size) {b o:Nat}:cu E t (.ptr b o) f=some (.ptr b (o+fd.offset)):=by
 have:dy E fd.type=some j.size:=by simp only [dy,hj,bo]
 simp only [cu,ht,hd,jO,hf,this]
 split
 ·rename_i h;injection h with h;omega
 ·rfl
 ·rename_i h;cases h
theorem iI {E:Env} {t f:Nat} {i j:TI} {fs:Array Field} {fd:Field} (ht:E.tys.get t=some i) (hd:i.desc=.struct fs) (hf:fs.toList[f]?=some fd) (hj:E.tys.get fd.type=some j) (hz:0<j.size) {b o:Nat}:cu E t (.gp b o) f=some (.gp b (o+fd.offset)):=by
 have:dy E fd.type=some j.size:=by simp only [dy,hj,bo]
 simp only [cu,ht,hd,jO,hf,this]
 split
 ·rename_i h;injection h with h;omega
 ·rfl
 ·rename_i h;cases h
theorem cL {E:Env} {t:Nat} {i:TI} (ht:E.tys.get t=some i):dy E t=some i.size:=by simp only [dy,ht,bo]
theorem ft {E:Env} {s t:Nat} {i j:TI} {k k':IntKind} {n:Int} {h:H} (hs:E.tys.get s=some i) (ht:E.tys.get t=some j) (hd:j.desc=.int k):j3 E h s t (.int k' n)=some (.int k (k.wrap n),h):=by
 simp only [j3,hs,ht]
 split<;>simp_all
section
variable {E : Env} {K : Nat → Prop} {h h' : H} {sz n : Nat} {s : V} {vs : List V}
def BG (x:Option Nat):Option V:=x.map fun n=>.int .i64 n
theorem Sl.sub (a:Sl E h sz s n vs) {t e:Nat} {i:TI} (ht:E.tys.get t=some i) (hd:i.desc=.slice e) (hs:dy E e=some sz) {lo hi:Option Nat} {l r:Nat} (hl:lo.getD 0=l) (hr:hi.getD n=r) (h1:l≤r) (h2:r≤n) :
  ∃s',eL E t s (BG lo) (BG hi) none=some s'∧Sl E h sz s' (r - l) ((vs.drop (l * sz)).take ((r - l) * sz))∧(∀K,In K s→In K s')∧(s=.nils→s'=.nils):=by
 have hlo:gB (some 0) (BG lo)=some l:=by
  cases lo with
  | none=>simp at hl;subst hl;rfl
  | some x=>simp at hl;subst hl;rfl
 have hhi:∀m,m=n→gB (some m) (BG hi)=some r:=by
  rintro m rfl
  cases hi with
  | none=>simp at hr;subst hr;rfl
  | some x=>simp at hr;subst hr;rfl
 have hlen:=a.size;have hle:(r - l) * sz+l * sz≤n * sz:=by rw [←Nat.add_mul];exact Nat.mul_le_mul_right _ (by omega)
 have hc:=a.cells;have hln:=a.len;unfold cX at hc
 split at hc
 ·simp only [iu] at hln;injection hln with hln;subst hln;injection hc with hc;subst hc;have hr0:r=0:=by omega
  have hl0:l=0:=by omega
  subst hr0 hl0;refine ⟨.nils,?_,by simpa using (Sl.nil (E:=E) (h:=h) (sz:=sz)),fun K _=>In.nils,fun _=>rfl⟩;have z:eL E t .nils (BG lo) (BG hi) none=zN (BG lo) (BG hi) none:=by simp only [eL,ht,hd,hs]
  rw [z]
  cases lo with
  | none=>cases hi with
   | none=>rfl
   | some y=>simp at hr;subst hr;rfl
  | some x=>cases hi with
   | none=>simp at hl;subst hl;rfl
   | some y=>simp at hl hr;subst hl hr;rfl
 ·rename_i b o m c;simp only [iu] at hln;injection hln with hln;subst hln;have hcap:∀cc,c=.lit cc→m≤cc:=fun cc e=>a.cap.1 b o m cc (by rw [e])
  have key:∀(o':Nat) (c':Cp),((r - l) * sz≠0→o'=o+l * sz)→(∀cc,c'=.lit cc→r - l≤cc)→Sl E h sz (.slice b o' (r - l) c') (r - l) ((vs.drop (l * sz)).take ((r - l) * sz)):=by
   intro o' c' ho hcc;refine ⟨rfl,?_,(fun _ e=>by cases e),(fun b o m c e=>by injection e with _ _ e1 e2;subst e1;exact hcc _ e2),(fun _ _ _ e=>by cases e)⟩;unfold cX;simp only
   cases h0:Nat.beq ((r - l) * sz) 0 with
   | true =>
    have:=aS h0;simp [this]
   | false =>
    have hne:(r - l) * sz≠0:=by intro e;rw [e] at h0;simp at h0
    rw [ho hne];have h0':Nat.beq (m * sz) 0=false:=kI (by omega);simp only [h0',cond_false] at hc;obtain ⟨_,hc⟩:=cI hc;simp only [cond_false,cQ (aI (r - l)),cond_true]
    split at hc
    ·rename_i T N d e' kk hb;obtain ⟨q1,q2⟩:=du hc;exact eu (by simp;omega) (fun j hj=>by rw [Nat.add_assoc,q2 _ (by omega),List.getElem?_take,if_pos hj,List.getElem?_drop])
    ·cases hc
  cases c with
  | lit cc =>
   have hcc:=hcap cc rfl
   refine ⟨.slice b (bif Nat.beq cc l then o else o+l * sz) (r - l) (.lit (cc - l)),?_,key _ _ ?_ (fun c e=>by injection e with e;omega),fun K hK b' o' n' c' e=>by injection e with e;subst e;exact hK _ _ _ _ rfl,fun e=>by cases e⟩
   ·simp only [eL,ht,hd,hs,iM,hlo,hhi m rfl,bQ,cQ h1,cond_true,j6,cQ (show r≤cc by omega)]
   ·intro hne
    cases hb:Nat.beq cc l with
    | true => have := aS hb; have : r - l = 0 := by omega
              rw [this] at hne;simp at hne
    | false=>rfl
  | opn el o' =>
   cases l with
   | zero =>
    refine ⟨.slice b o r (.opn el o'),?_,by simpa using key o (.opn el o') (fun _=>by simp) (fun c e=>by cases e),fun K hK b' o' n' c' e=>by injection e with e;subst e;exact hK _ _ _ _ rfl,fun e=>by cases e⟩;simp only [eL,ht,hd,hs,iM,hlo,hhi m rfl,bQ,cQ h1,cond_true,j6,cQ h2]
   | succ l' =>
    refine ⟨.slice b (o+(Nat.succ l') * sz) (r - Nat.succ l') (.opn (el+Nat.succ l') o),?_,key _ _ (fun _=>rfl) (fun c e=>by cases e),fun K hK b' o' n' c' e=>by injection e with e;subst e;exact hK _ _ _ _ rfl,fun e=>by cases e⟩;simp only [eL,ht,hd,hs,iM,hlo,hhi m rfl,bQ,cQ h1,cond_true,j6,cQ h2]
 ·rename_i ad m c;simp only [iu] at hln;injection hln with hln;subst hln;have hcc:=a.cap.2 ad m c rfl;obtain ⟨_,hc⟩:=cI hc
  refine ⟨.gsl (bif Nat.beq c l then ad else ad.add (l * sz)) (r - l) (c - l),?_,⟨rfl,?_,(fun _ e=>by cases e),(fun _ _ _ _ e=>by cases e),(fun a m c e=>by injection e with _ e1 e2;omega)⟩,fun K _=>In.gsl,fun e=>by cases e⟩
  ·simp only [eL,ht,hd,hs,FS,hlo,hhi m rfl,bQ,cQ h1,cond_true,cQ (show r≤c by omega)]
  ·simp only [cX,cQ (aI (r - l)),cond_true]
   rcases Nat.eq_zero_or_pos ((r - l) * sz) with h0|h0
   ·rw [h0];simp [lG]
   ·obtain ⟨g1,cs,g2,g3,g4,g5⟩:=pA hc (by omega)
    have hne:c≠l:=by
     rintro rfl
     have:r - c=0:=by omega
     rw [this] at h0;simp at h0
    rw [kI hne];simp only [cond_false]
    have hadd:ad.add (l * sz)=⟨ad.block,ad.off+l * sz,none⟩:=by
     obtain ⟨g,o,sp⟩:=ad;simp only at g1;subst g1;exact Addr.add_lit _ _ _
    rw [hadd]
    have hsub:(cs.drop (ad.off+l * sz)).take ((r - l) * sz)=(vs.drop (l * sz)).take ((r - l) * sz):=by
     apply List.ext_getElem?;intro j;rw [List.getElem?_take,List.getElem?_take]
     split
     ·rename_i hj;rw [List.getElem?_drop,List.getElem?_drop,g3,List.getElem?_take,if_pos (by omega),List.getElem?_drop,Nat.add_assoc]
     ·rfl
    unfold lG
    split
    ·rename_i hz;omega
    ·simp only [g2,hsub]
     exact uw (by simp;omega) (by
      rw [bH] at g5 ⊢;intro x hx
      exact g5 x (List.mem_of_mem_drop (List.mem_of_mem_take hx)))
 ·exact absurd rfl (a.slice _)
 ·cases hc
inductive Buf (E:Env) (h:H) (e sz:Nat):V→Nat→List V→Prop where
 | nil:Buf E h e sz .nils 0 []
 | lit {b n t N d e' k vs} (hb:h.t.get b=some (.cells t N d e' k)) (hc:dT t N d 0 (n * sz)=some vs):Buf E h e sz (.slice b 0 n (.lit n)) n vs
 | opn {b n t d k vs} (hb:h.t.get b=some (.cells t (n * sz) d e k)) (hk:k=1∨k=2) (hc:dT t (n * sz) d 0 (n * sz)=some vs):Buf E h e sz (.slice b 0 n (.opn 0 0)) n vs
theorem Buf.sl {e:Nat} (b:Buf E h e sz s n vs):Sl E h sz s n vs:=by
 cases b with
 | nil=>exact Sl.nil
 | lit hb hc =>
  refine ⟨rfl,?_,(fun _ e=>by cases e),(fun b o m c e=>by injection e with _ _ e1 e2;injection e2 with e2;omega),(fun _ _ _ e=>by cases e)⟩;simp only [cX,hb,cQ (aI n),cond_true,hc]
  cases h0:Nat.beq (n * sz) 0 with
  | true =>
   have h0:=aS h0;rw [h0] at hc;simp [dT] at hc;subst hc;rfl
  | false=>rfl
 | opn hb hk hc =>
  refine ⟨rfl,?_,(fun _ e=>by cases e),(fun b o m c e=>by injection e with _ _ e1 e2;cases e2),(fun _ _ _ e=>by cases e)⟩;simp only [cX,hb,cQ (aI n),cond_true,hc]
  cases h0:Nat.beq (n * sz) 0 with
  | true =>
   have h0:=aS h0;rw [h0] at hc;simp [dT] at hc;subst hc;rfl
  | false=>rfl
theorem Buf.fix {e:Nat} (b:Buf E h e sz s n vs) (hs:In K s) (hf:Fix K h h'):Buf E h' e sz s n vs:=by
 cases b with
 | nil=>exact .nil
 | lit hb hc=>exact .lit (by rw [hf.ca _ (hs _ _ _ _ rfl)];exact hb) hc
 | opn hb hk hc=>exact .opn (by rw [hf.ca _ (hs _ _ _ _ rfl)];exact hb) hk hc
theorem jH {h:H} {elem kind:Nat} {cs:List V} {k:Nat}:(row h elem cs kind).2.t.get k=if k=h.bX then some (.cells (T.putL .lf 0 cs) cs.length [.nilp] elem kind) else h.t.get k:=by
 simp only [row,H.new,T.get_set]
theorem tA {h:H} {elem kind:Nat} {cs:List V}:(row h elem cs kind).2.bX=h.bX+1:=rfl
theorem Ea {h:H} {elem kind:Nat} {cs:List V}:(row h elem cs kind).1=h.bX:=rfl
theorem kP {h:H} {elem kind:Nat} {cs:List V} (hK:∀c,K c→c<h.bX):Fix K h (row h elem cs kind).2:=by
 refine ⟨by rw [tA];omega,fun b hb=>?_⟩;rw [jH,if_neg (by have:=hK b hb;omega)]
theorem mw {cs d:List V}:dT (T.putL .lf 0 cs) cs.length d 0 cs.length=some cs :=
 eu rfl (fun j _=>by rw [aH,pU])
theorem Buf.append {t t2 e:Nat} {i j ei:TI} (b:Buf E h e sz s n vs) (ht:E.tys.get t=some i) (hd:i.desc=.slice e) (hj:E.tys.get t2=some j) (hjd:(∃e',j.desc=.slice e')∨j.desc=.string)
  (he:E.tys.get e=some ei) (hsz:ei.size=sz) (hpos:0<sz) (hb0:0<ei.bytes) {x:V} {m:Nat} {ws:List V} (hl:iu x=some m) (hc:cX E h sz m x=some ws) (hw:ws.length=m * sz) (h1:ws.all V.one=true)
  (hsize:(n+m) * ei.bytes≤140737488355328) (hK:∀c,K c→c<h.bX) (ho:Out K s) (hlow:In (·<h.bX) s) :
  ∃s' h',kv E h t t2 s x=some (s',h')∧Buf E h' e sz s' (n+m) (vs++ws)∧Fix K h h'∧In (·<h'.bX) s'∧(∀b o k c,s'=.slice b o k c→b=h.bX∨∃o k c,s=.slice b o k c)∧h'.bX≤h.bX+1 ∧
   (∀b,(∀o k c,s≠.slice b o k c)→b<h.bX→h'.t.get b=h.t.get b):=by
 have happ:kv E h t t2 s x=fK E h t s x:=by
  unfold kv;rw [hj];rcases hjd with ⟨e',q⟩|q<;>simp only [q]
 rw [happ];have hc':cX E h ei.size m x=some ws:=by rw [hsz];exact hc
 have hbs:Nat.blt 0 ei.bytes=true:=gF hb0;have hss:Nat.blt 0 ei.size=true:=gF (by omega)
 cases b with
 | nil =>
  cases m with
  | zero =>
   have:ws=[]:=by simpa using hw
   subst this;exact ⟨.nils,h,by simp [fK,ht,hd,he,hl,hc'],.nil,Fix.refl _ _,hlow,(fun _ _ _ _ e=>by cases e),by omega,fun _ _ _=>rfl⟩
  | succ m =>
   refine ⟨.slice h.bX 0 (m+1) (.opn 0 0),(row h e ws 1).2,?_,?_,kP hK,?_,?_,by rw [tA];omega,fun b _ hb=>by rw [jH,if_neg (by omega)]⟩
   ·have:Nat.ble ((m+1) * ei.bytes) 140737488355328=true:=cQ (by simpa using hsize);simp [fK,ht,hd,he,hl,hc',h1,this,hbs,grow,row,H.new]
   ·have hlen:ws.length=(0+(m+1)) * sz:=by rw [hw];simp
    have:=mw (cs:=ws) (d:=[.nilp]);rw [hlen] at this;have q:=Buf.opn (E:=E) (h:=(row h e ws 1).2) (e:=e) (sz:=sz) (b:=h.bX) (n:=0+(m+1)) (d:=[.nilp]) (t:=T.putL .lf 0 ws) (k:=1) (vs:=ws) (by rw [jH,if_pos rfl,hlen]) (.inl rfl) this;simpa using q
   ·intro b o k c e;injection e with e;subst e;exact Nat.lt_succ_self _
   ·intro b o k c e;injection e with e;exact .inl e.symm
 | @lit b _ t' N d e' k _ hb hcs =>
  cases m with
  | zero =>
   have:ws=[]:=by simpa using hw
   subst this;refine ⟨.slice b 0 n (.lit n),h,?_,by simpa using (Buf.lit hb hcs),Fix.refl _ _,hlow,(fun b' o k c e=>by injection e with e;subst e;exact .inr ⟨_,_,_,rfl⟩),by omega,fun _ _ _=>rfl⟩;have h2:Nat.ble (n * ei.bytes) 140737488355328=true:=cQ (by simpa using hsize);simp only [fK,ht,hd,he,hl,hc',List.all_nil,aV,cond_false,Nat.add_zero,h2,hbs,hss,Bool.and_self,cQ (aI n),cond_true,gZ,bo]
  | succ m =>
   have hlen:(vs++ws).length=(n+(m+1)) * sz:=by rw [aQ,(du hcs).1,hw,←Nat.add_mul]
   refine ⟨.slice h.bX 0 (n+(m+1)) (.opn 0 0),(row h e (vs++ws) 1).2,?_,?_,kP hK,?_,?_,by rw [tA];omega,fun b _ hb=>by rw [jH,if_neg (by omega)]⟩
   ·have h2:Nat.ble ((n+(m+1)) * ei.bytes) 140737488355328=true:=cQ hsize;have h3:Nat.ble (n+(m+1)) n=false:=uI (by omega);have h4:=(Buf.sl (Buf.lit (E:=E) (h:=h) (e:=e) (sz:=sz) hb hcs)).cells;rw [←hsz] at h4;simp only [fK,ht,hd,he,hl,hc',h1,aV,cond_false,h2,hbs,hss,Bool.and_self,h3,h4,grow,row,H.new]
   ·have:=mw (cs:=vs++ws) (d:=[.nilp]);rw [hlen] at this;exact .opn (by rw [jH,if_pos rfl,hlen]) (.inl rfl) this
   ·intro b o k c e;injection e with e;subst e;exact Nat.lt_succ_self _
   ·intro b o k c e;injection e with e;exact .inl e.symm
 | @opn b _ t' d k _ hb hk hcs =>
  have hkk:(Nat.beq k 1||Nat.beq k 2)=true:=by rcases hk with rfl|rfl<;>rfl
  cases m with
  | zero =>
   have:ws=[]:=by simpa using hw
   subst this;refine ⟨.slice b 0 n (.opn 0 0),h,?_,by simpa using (Buf.opn hb hk hcs),Fix.refl _ _,hlow,(fun b' o k c e=>by injection e with e;subst e;exact .inr ⟨_,_,_,rfl⟩),by omega,fun _ _ _=>rfl⟩;have h2:Nat.ble (n * ei.bytes) 140737488355328=true:=cQ (by simpa using hsize);have h3:Nat.ble (n * ei.size) (n * sz)=true:=by rw [hsz];exact cQ (aI _)
   simp only [fK,ht,hd,he,hl,hc',List.all_nil,aV,cond_false,Nat.add_zero,h2,hbs,hss,Bool.and_self,hb,hkk,Nat.beq_refl,aH,h3,cond_true,gZ,bo]
  | succ m =>
   have h2:Nat.ble ((n+(m+1)) * ei.bytes) 140737488355328=true:=cQ hsize;have h3:Nat.ble ((0+(n+(m+1))) * ei.size) (n * sz)=false:=uI (by rw [hsz,aH];exact Nat.mul_lt_mul_of_pos_right (by omega) hpos);have h4:Nat.ble (n * ei.size) (n * sz)=true:=by rw [hsz];exact cQ (aI _)
   have hlen:=(du hcs).1;have hbK:¬K b:=ho _ _ _ _ rfl;have hb':∀c,c≠b→∀B:T B,(B.del b).get c=B.get c:=fun c hc B=>by rw [T.get_del,if_neg hc]
   refine ⟨.slice h.bX 0 (n+(m+1)) (.opn 0 0),H.mk ((h.t.del b).set h.bX (.cells (t'.putL (n * sz) ws) ((n+(m+1)) * sz) d e k)) (Nat.succ h.bX),?_,?_,?_,?_,?_,aI _,fun c h1 h2=>?_⟩
   ·simp only [fK,ht,hd,he,hl,hc',h1,aV,cond_false,h2,hbs,hss,Bool.and_self,hb,hkk,Nat.beq_refl,h3,h4,cond_true];rw [hsz]
   ·refine .opn (t:=t'.putL (n * sz) ws) (d:=d) (by rw [T.get_set,if_pos rfl]) hk ?_;have hsum:n * sz+ws.length=(n+(m+1)) * sz:=by rw [hw,←Nat.add_mul]
    refine eu (by rw [aQ,hlen,hsum]) (fun j hj=>?_);rw [aH,jo (by omega)]
    by_cases hjn:j<n * sz
    ·rw [if_neg (by omega),List.getElem?_append_left (by omega)];have:=(du hcs).2 j hjn;rw [aH] at this;rw [←this];unfold eH;rw [gF hjn,gF hj]
    ·rw [if_pos (by omega),List.getElem?_append_right (by omega),hlen]
   ·refine ⟨Nat.le_succ _,fun c hc=>?_⟩;have h5:=hK c hc;simp only [T.get_set];rw [if_neg (by omega),hb' c (by rintro rfl;exact hbK hc)]
   ·intro b o k c e;injection e with e;subst e;exact Nat.lt_succ_self _
   ·intro b o k c e;injection e with e;exact .inl e.symm
   ·simp only [T.get_set];rw [if_neg (by omega),hb' c (by rintro rfl;exact h1 _ _ _ rfl)]
end
end Go.Ev
