/- The equations of walks, in one. -/
import Derived.Test.YtloblhhnlaaajaaDoorY12
set_option linter.unusedVariables false
set_option linter.unusedSimpArgs false
set_option linter.defProp false
namespace Go.Ev
open Go
def wk:=And.intro @JL (And.intro @Ht (And.intro @JN (And.intro @AM (And.intro @AL (And.intro @w_move (And.intro @HD (And.intro @w_pick (And.intro @w_load (And.intro @w_store (And.intro @w_bin (And.intro @w_un (And.intro @w_conv (And.intro @AN (And.intro @w_len (And.intro @AO (And.intro @w_field (And.intro @CJ (And.intro @w_slice (And.intro @w_build (And.intro @zJ (And.intro @HE (And.intro @w_copy (And.intro @w_call (And.intro @FE (And.intro @opd_tmp (And.intro @opd_int (And.intro @I0 (And.intro @IU (And.intro @opd_str (And.intro @opd_fn (And.intro @IT (And.intro @GK (And.intro (@T.get_set V) (And.intro @Je (And.intro @sat_rv (And.intro @jz (And.intro @pE (And.intro @tz (And.intro @Io (And.intro @Il (And.intro @tU (And.intro @bin_leq (And.intro @gX (And.intro @vM (And.intro @jL (And.intro @iK (And.intro @cY (And.intro @fin_ret (And.intro @Dx (And.intro @resV_eq (And.intro @Ig (And.intro @Ih (And.intro @Gw (And.intro @one_one (And.intro @one_two (And.intro @GI (And.intro @GL (And.intro @Dc (And.intro @GN (And.intro @GM (And.intro @HC (And.intro @b_tt (And.intro @b_tf (And.intro @b_ft (@b_ff)))))))))))))))))))))))))))))))))))))))))))))))))))))))))))))))))
def wd:=And.intro @Hu (And.intro @DS (And.intro @Hv (And.intro @PNe_eq (And.intro @PNr_eq (And.intro @isV_rv (And.intro @isV_r1 (And.intro @has_nil (And.intro @Jd (And.intro @o_load (And.intro @o_bin (And.intro @o_conv (@o_len))))))))))))
def wl:=And.intro @Option.bind_some.{0,0} (And.intro @List.getElem?_cons_zero.{0} (And.intro @List.getElem?_cons_succ.{0} (And.intro @cond_true.{1} (And.intro @cond_false.{1} (And.intro @Bool.or_true (And.intro @Bool.or_false (And.intro @Bool.true_or (And.intro @Bool.false_or (And.intro @List.nil_append.{0} (And.intro @List.append_nil.{0} (And.intro @List.cons_append.{0} (@Nat.beq_eq_true_eq))))))))))))
section
variable {E : Env}
section
variable {d : Option Nat} {t : Nat} {p : String} {a : Array Edge} {g : Option (Nat × Bool)} {fr : Fr} {h : H} {Q : V → H → Prop}
theorem dj {ty:Nat} {x y:Operand} {ok:Bool}:WOp E fr h ⟨d,.lookup ty x y ok,t,p,a,g⟩ Q=ej (rv h ((opd fr x).bind fun u=>(opd fr y).bind fun v=>gJ E h ty u v ok)) Q:=by
 simp only [WOp,opV]
 cases opd fr x with
 | none=>rfl
 | some c=>cases opd fr y<;>rfl
theorem iA {ty:Nat} {x y z:Operand}:WOp E fr h ⟨d,.mapUpdate ty x y z,t,p,a,g⟩ Q=ej (rh ((opd fr x).bind fun u=>(opd fr y).bind fun v=>(opd fr z).bind fun w=>iX E h ty u v w)) Q:=by
 simp only [WOp,opV]
 cases opd fr x with
 | none=>rfl
 | some c=>cases opd fr y with
  | none=>rfl
  | some c=>cases opd fr z<;>rfl
theorem pz {f:Nat} {xs ys:Array Operand}:WOp E fr h ⟨d,.makeFunc (.func f) xs ys,t,p,a,g⟩ Q=ej (rv h ((jf fr xs.toList).bind fun u=>(jf fr ys.toList).bind fun v=>some (.func f u v))) Q:=by
 simp only [WOp,opV]
 cases jf fr xs.toList with
 | none=>rfl
 | some c=>cases jf fr ys.toList<;>rfl
theorem jT {ty:Nat} {x y:Operand}:WOp E fr h ⟨d,.makeSlice ty x y,t,p,a,g⟩ Q=ej (r1 ((opd fr x).bind fun u=>(opd fr y).bind fun v=>jj E h ty u v)) Q:=by
 simp only [WOp,opV]
 cases opd fr x with
 | none=>rfl
 | some c=>cases opd fr y<;>rfl
end
def Mp (h:H) (b:Nat) (L:List (List UInt8×V)):Prop:=∃es c,h.t.get b=some (.map es c)∧es.map (fun e=>(e.1,e.2.1))=L.map (fun p=>(V.str p.1,p.2))
def lk (k:List UInt8):List (List UInt8×V)→Option V
 | []=>none
 | p::r=>if p.1=k then some p.2 else lk k r
def ins (k:List UInt8) (v:V):List (List UInt8×V)→List (List UInt8×V)
 | []=>[(k,v)]
 | p::r=>if p.1=k then (k,v)::r else p::ins k v r
theorem Mp.fix {h h':H} {K:Nat→Prop} {b:Nat} {L:List (List UInt8×V)} (m:Mp h b L) (f:Fix K h h') (hb:K b:=by omega):Mp h' b L:=by
 obtain ⟨es,c,h1,h2⟩:=m;exact ⟨es,c,by rw [f.ca b hb];exact h1,h2⟩
theorem vH {h:H} {k:List UInt8}:∀{L:List (List UInt8×V)} {es:List (V×V×Nat)} {i:Nat},es.map (fun e=>(e.1,e.2.1))=L.map (fun p=>(V.str p.1,p.2)) →
  match lk k L with
  | none=>gU E h .string (.str k) es i=some none∧∀(v:V) (c:Nat),(es++[(V.str k,v,c)]).map (fun (e:V×V×Nat)=>(e.1,e.2.1))=(ins k v L).map (fun p=>(V.str p.1,p.2))
  | some v=>∃j born,gU E h .string (.str k) es i=some (some (i+j,v,born))∧∀x,(pD es j (V.str k,x,born)).map (fun e=>(e.1,e.2.1))=(ins k x L).map (fun p=>(V.str p.1,p.2))
 | [],[],i,_=>⟨rfl,fun _ _=>rfl⟩
 | [],e::es,i,he=>by simp at he
 | p::L,[],i,he=>by simp at he
 | p::L,(ek,ev,ec)::es,i,he=>by
  simp only [bI,List.cons.injEq,Prod.mk.injEq] at he;obtain ⟨⟨e1,e2⟩,e3⟩:=he;subst e1 e2;have ih:=vH (h:=h) (k:=k) (L:=L) (es:=es) (i:=Nat.succ i) e3;have hk:va E h .string (.str k) (.str p.1)=some (k==p.1):=rfl
  by_cases hp:p.1=k
  ·have:lk k (p::L)=some p.2:=by unfold lk;rw [if_pos hp]
   rw [this]
   refine ⟨0,ec,?_,fun x=>?_⟩
   ·unfold gU;rw [hk,show (k==p.1)=true by simp [hp]];rfl
   ·unfold ins;rw [if_pos hp];simp only [pD,bI,e3]
  ·have:lk k (p::L)=lk k L:=by conv=>lhs;unfold lk;rw [if_neg hp]
   have hi:∀x,ins k x (p::L)=p::ins k x L:=fun x=>by conv=>lhs;unfold ins;rw [if_neg hp]
   have hf:gU E h .string (.str k) ((.str p.1,p.2,ec)::es) i=gU E h .string (.str k) es (Nat.succ i):=by
    conv=>lhs;unfold gU
    rw [hk,show (k==p.1)=false by simpa using Ne.symm hp]
   rw [this,hf]
   cases hl:lk k L with
   | none =>
    rw [hl] at ih;refine ⟨ih.1,fun v c=>?_⟩;rw [hi,List.cons_append,bI,bI,ih.2 v c]
   | some v =>
    rw [hl] at ih;obtain ⟨j,born,q1,q2⟩:=ih;refine ⟨j+1,born,by rw [q1];congr 3;omega,fun x=>?_⟩;rw [hi];simp only [pD,bI,q2 x]
section
variable {h : H} {b ty kt et : Nat} {L : List (List UInt8 × V)} {i ki ei : TI} {k : List UInt8}
theorem EP (m:Mp h b L) (ht:E.tys.get ty=some i) (hd:i.desc=.map kt et) (hk:E.tys.get kt=some ki) (hkd:ki.desc=.string) (he:E.tys.get et=some ei) :
  gJ E h ty (.map b) (.str k) true=some (.tuple [(lk k L).getD ei.zv,.bool (lk k L).isSome]):=by
 obtain ⟨es,c,h1,h2⟩:=m;have:=vH (E:=E) (h:=h) (k:=k) (i:=0) h2;simp only [gJ,qB,ht,hd,hk,he,hkd,qx,cond_true,rq,h1]
 cases hl:lk k L with
 | none=>rw [hl] at this;simp only [this.1,TI.zeroV,bo];rfl
 | some v =>
  rw [hl] at this;obtain ⟨j,born,q1,_⟩:=this;simp only [q1];rfl
theorem lookup1 (m:Mp h b L) (ht:E.tys.get ty=some i) (hd:i.desc=.map kt et) (hk:E.tys.get kt=some ki) (hkd:ki.desc=.string) (he:E.tys.get et=some ei) :
  gJ E h ty (.map b) (.str k) false=some ((lk k L).getD ei.zv):=by
 obtain ⟨es,c,h1,h2⟩:=m;have:=vH (E:=E) (h:=h) (k:=k) (i:=0) h2;simp only [gJ,qB,ht,hd,hk,he,hkd,qx,cond_true,rq,h1]
 cases hl:lk k L with
 | none=>rw [hl] at this;simp only [this.1,TI.zeroV,bo];rfl
 | some v =>
  rw [hl] at this;obtain ⟨j,born,q1,_⟩:=this;simp only [q1];rfl
theorem CS {v:V} {Q:V→H→Prop} (m:Mp h b L) (ht:E.tys.get ty=some i) (hd:i.desc=.map kt et) (hk:E.tys.get kt=some ki) (hkd:ki.desc=.string) (he:E.tys.get et=some ei)
  (q:∀h',Mp h' b (ins k v L)→h'.bX=h.bX→Fix (·≠b) h h'→Q un h'):ej (rh (iX E h ty (.map b) (.str k) v)) Q:=by
 obtain ⟨es,c,h1,h2⟩:=m;have:=vH (E:=E) (h:=h) (k:=k) (i:=0) h2;have fx:∀x,Fix (·≠b) h (h.put b x):=fun x=>⟨aI _,fun c hc=>by simp only [H.put,T.get_set];rw [if_neg hc]⟩;simp only [iX,qB,ht,hd,hk,he,hkd,qx,cond_true,h1]
 cases hl:lk k L with
 | none =>
  rw [hl] at this;simp only [this.1,pE];exact q _ ⟨_,_,by simp only [H.put,T.get_set,if_true];rfl,this.2 v c⟩ rfl (fx _)
 | some w =>
  rw [hl] at this;obtain ⟨j,born,q1,q2⟩:=this;rw [aH] at q1;simp only [q1,pE];exact q _ ⟨_,_,by simp only [H.put,T.get_set,if_true];rfl,q2 v⟩ rfl (fx _)
theorem AK {fr:Fr} {d:Option Nat} {ty t:Nat} {p:String} {a:Array Edge} {g:Option (Nat×Bool)} {Q:V→H→Prop}
  (q:∀h',Mp h' h.bX []→h'.bX=h.bX+1→Fix (·<h.bX) h h'→Q (.map h.bX) h'):WOp E fr h ⟨d,.makeMap ty none,t,p,a,g⟩ Q:=by
 show ej (fQ (.map h.bX,{t:=h.t.set h.bX (.map [] 0),bX:=Nat.succ h.bX})) Q;rw [tz];exact q _ ⟨[],0,by simp only [T.get_set,if_true],rfl⟩ rfl ⟨Nat.le_succ _,fun c hc=>by simp only [T.get_set];rw [if_neg (Nat.ne_of_lt hc)]⟩
end
theorem lP {α:Type} {f:α→List V} {sz:Nat} (hf:∀x,(f x).length=sz):∀(L:List α),(L.flatMap f).length=L.length * sz
 | []=>by simp
 | x::r=>by
  rw [bM,aQ,lP hf r,hf,aO,Nat.succ_mul];omega
theorem qK {α:Type} {f:α→List V} {sz:Nat} (hf:∀x,(f x).length=sz):∀{L:List α} {k:Nat} (hk:k<L.length),((L.flatMap f).drop (k * sz)).take sz=f L[k]
 | [],k,hk=>absurd hk (Nat.not_lt_zero _)
 | x::r,0,_=>by
  rw [Nat.zero_mul,bJ,bM,List.take_append_of_le_length (by rw [hf];exact aI _),←hf x,bv];rfl
 | x::r,k+1,hk=>by
  have:=qK hf (L:=r) (k:=k) (by simpa using hk);rw [bM,Nat.succ_mul,Nat.add_comm,←List.drop_drop,List.drop_append_of_le_length (by rw [hf];exact aI _),show (f x).drop sz=[] by rw [←hf x,bU],List.nil_append];exact this
abbrev Rcs {α:Type} (E:Env) (h:H) (sz:Nat) (f:α→List V) (s:V) (L:List α):Prop:=Sl E h sz s L.length (L.flatMap f)
theorem Rcs.at {α:Type} {h:H} {sz:Nat} {f:α→List V} {s:V} {L:List α} (r:Rcs E h sz f s L) (hf:∀x,(f x).length=sz) {t e k:Nat} {i ei:TI} (ht:E.tys.get t=some i) (hd:i.desc=.slice e) (he:E.tys.get e=some ei) (hs:ei.size=sz) (hpos:0<sz) (hag:ei.agg=true) (hk:k<L.length) :
  ∃p,cK E t s (.int .i64 k)=some p∧∀h',(∀b o m c,s=.slice b o m c→h'.t.get b=h.t.get b)→cx E h' e p=some (.agg (f L[k])):=by
 obtain ⟨p,h1,h2⟩:=Sl.place r ht hd he hs hpos hk;refine ⟨p,h1,fun h' hh=>?_⟩;rw [h2 h' hh,hag,cond_true,qK hf hk]
theorem Sl.spot {h:H} {sz n:Nat} {s:V} {vs:List V} (a:Sl E h sz s n vs) {t e k:Nat} {i ei:TI} (ht:E.tys.get t=some i) (hd:i.desc=.slice e) (he:E.tys.get e=some ei) (hsz:ei.size=sz) (hpos:0<sz) (hk:k<n) :
  ∃(mk:Nat→V) (o:Nat),((∃b,∀x,mk x=.ptr b x)∨(∃b,∀x,mk x=.gp b x))∧cK E t s (.int .i64 k)=some (mk o) ∧
   ∀h',(∀b o m c,s=.slice b o m c→h'.t.get b=h.t.get b)→∀j,j<sz→∀ty tj,E.tys.get ty=some tj→tj.agg=false→cx E h' ty (mk (o+j))=vs[k * sz+j]?:=by
 have hc:=a.cells;have hl:=a.len;have hlt:Nat.blt k n=true:=by simpa using hk
 have hbig:0<n * sz:=Nat.mul_pos (by omega) hpos;have hin:k * sz+sz≤n * sz:=by rw [←Nat.succ_mul];exact Nat.mul_le_mul_right _ hk
 have hsize:=a.size;unfold cX at hc
 split at hc
 ·simp only [iu] at hl;injection hl with hl;omega
 ·rename_i b o m c;simp only [iu] at hl;injection hl with hl;subst hl
  have h0:Nat.beq (m * sz) 0=false:=by
   cases hb:Nat.beq (m * sz) 0 with
   | false=>rfl
   | true=>have:=aS hb;omega
  simp only [h0,cond_false] at hc;obtain ⟨_,hc⟩:=cI hc
  split at hc
  ·rename_i T N d e' kk hb;obtain ⟨q1,q2⟩:=du hc
   refine ⟨fun x=>.ptr b x,o+k * sz,.inl ⟨b,fun _=>rfl⟩,?_,fun h' hsame j hj ty tj hty hag=>?_⟩
   ·simp [cK,ht,hd,fW,hlt,dy,he,hsz]
   ·simp only [cx,p6,hty,hag,hsame b _ _ _ rfl,hb,cond_false];rw [Nat.add_assoc];exact q2 _ (by omega)
  ·cases hc
 ·rename_i ad m c;simp only [iu] at hl;injection hl with hl;subst hl;obtain ⟨_,hc⟩:=cI hc;obtain ⟨h1,cs,h2,h3,h4,h5⟩:=pA hc hbig
  refine ⟨fun x=>.gp ad.block x,ad.off+k * sz,.inr ⟨ad.block,fun _=>rfl⟩,?_,fun h' _ j hj ty tj hty hag=>?_⟩
  ·simp [cK,ht,hd,fW,hlt,dy,he,hsz,h1]
  ·have hget:cs[ad.off+k * sz+j]?=vs[k * sz+j]?:=by
    rw [h3,List.getElem?_take,if_pos (by omega),List.getElem?_drop,Nat.add_assoc]
   simp only [cx,rX,hty,h2,hag,cond_false,jO];rw [hget];have hlt2:k * sz+j<vs.length:=by omega
   rw [List.getElem?_eq_getElem hlt2];have h6:(vs[k * sz+j]).one=true:=bH.1 h5 _ (aP _);simp [h6]
 ·exact absurd rfl (a.slice _)
 ·cases hc
theorem Hd {α:Type} {f:α→List V} {sz:Nat} (hf:∀x,(f x).length=sz) {L:List α} {k j:Nat} (hk:k<L.length) (hj:j<sz):(L.flatMap f)[k * sz+j]?=(f L[k])[j]?:=by
 rw [←qK hf hk,List.getElem?_take,if_pos hj,List.getElem?_drop]
theorem Rcs.spot {α:Type} {h:H} {sz:Nat} {f:α→List V} {s:V} {L:List α} (r:Rcs E h sz f s L) (hf:∀x,(f x).length=sz) {t e k:Nat} {i ei:TI} (ht:E.tys.get t=some i) (hd:i.desc=.slice e) (he:E.tys.get e=some ei) (hs:ei.size=sz) (hpos:0<sz) (hk:k<L.length) :
  ∃(mk:Nat→V) (o:Nat),((∃b,∀x,mk x=.ptr b x)∨(∃b,∀x,mk x=.gp b x))∧cK E t s (.int .i64 k)=some (mk o) ∧
   ∀h',(∀b o m c,s=.slice b o m c→h'.t.get b=h.t.get b)→∀j,j<sz→∀ty tj,E.tys.get ty=some tj→tj.agg=false→cx E h' ty (mk (o+j))=(f L[k])[j]?:=by
 obtain ⟨mk,o,h1,h2,h3⟩:=Sl.spot r ht hd he hs hpos hk;exact ⟨mk,o,h1,h2,fun h' hh j hj ty tj q1 q2=>by rw [h3 h' hh j hj ty tj q1 q2,Hd hf hk hj]⟩
abbrev Vs {α:Type} (E:Env) (h:H) (f:α→V) (s:V) (L:List α):Prop:=Sl E h 1 s L.length (L.map f)
theorem Vs.at {α:Type} {h:H} {f:α→V} {s:V} {L:List α} (r:Vs E h f s L) {t e k:Nat} {i ei:TI} (ht:E.tys.get t=some i) (hd:i.desc=.slice e) (he:E.tys.get e=some ei) (hs:ei.size=1) (hag:ei.agg=false) (hk:k<L.length) :
  ∃p,cK E t s (.int .i64 k)=some p∧∀h',(∀b o m c,s=.slice b o m c→h'.t.get b=h.t.get b)→cx E h' e p=some (f L[k]):=by
 obtain ⟨p,h1,h2⟩:=Sl.place r ht hd he hs (by decide) hk;refine ⟨p,h1,fun h' hh=>?_⟩;rw [h2 h' hh,hag,cond_false,bL,List.getElem?_map,List.getElem?_eq_getElem hk];rfl
end
section
variable {E : Env}
def qh (E:Env) (ops:List Oper) (s:Stp) (rd:List (Nat×V)) (fr:Fr) (h:H) (K:Fr→H→Prop):Prop:=match nth ops s.idx with
 | none=>False
 | some o=>match dS fr ops o with
  | none=>False
  | some false=>(match fr.put o.dst un with
   | some fr'=>K fr' h
   | none=>False)
  | some true=>bif s.eff then WOp E fr h o fun v h'=>Chk E ops fr h' s.chk rd∧(match fr.put o.dst v with
    | some fr'=>K fr' h'
    | none=>False)
   else WOp E fr h o fun v _=>match fr.put o.dst v with
    | some fr'=>K fr' h
    | none=>False
theorem qh.plan {ops:List Oper} {s:Stp} {r:List Stp} {rd:List (Nat×V)} {fr:Fr} {h:H} {Q:Fr→H→Prop} (hs:s.rd=false) (k:qh E ops s rd fr h fun fr h=>dR E ops r rd fr h Q):dR E ops (s::r) rd fr h Q:=by
 unfold qh at k;simp only [dR,hs,cond_false];exact k
theorem ej.mono {r:R (V×H)} {Q Q':V→H→Prop} (k:ej r Q) (hq:∀v h,Q v h→Q' v h):ej r Q':=by
 unfold ej at *
 split at k
 ·exact fun x hx=>hq _ _ (k x hx)
 ·exact k
theorem WOp.mono {fr:Fr} {h:H} {o:Oper} {Q Q':V→H→Prop} (k:WOp E fr h o Q) (hq:∀v h,Q v h→Q' v h):WOp E fr h o Q':=by
 unfold WOp at *
 split at k
 ·split at k
  ·split at k
   ·exact WF.mono k hq
   ·exact k
  ·exact k.mono hq
 ·exact k.mono hq
theorem qh.mono {ops:List Oper} {s:Stp} {rd:List (Nat×V)} {fr:Fr} {h:H} {K K':Fr→H→Prop} (k:qh E ops s rd fr h K) (hk:∀fr h,K fr h→K' fr h):qh E ops s rd fr h K':=by
 unfold qh at *
 split at k
 ·exact k
 ·split at k
  ·exact k
  ·split at k
   ·exact hk _ _ k
   ·exact k
  ·cases hs:s.eff with
   | true =>
    rw [hs] at k;simp only [cond_true] at k ⊢;refine k.mono fun v h q=>⟨q.1,?_⟩;have:=q.2
    split at this
    ·exact hk _ _ this
    ·exact this
   | false =>
    rw [hs] at k;simp only [cond_false] at k ⊢;refine k.mono fun v h q=>?_
    split at q
    ·exact hk _ _ q
    ·exact q
def Stp.beq (a b:Stp):Bool:=Nat.beq a.idx b.idx&&(a.eff==b.eff&&(a.rd==b.rd&&a.chk==b.chk))
theorem Stp.beq_eq {a b:Stp} (h:a.beq b=true):a=b:=by
 cases a;cases b
 simp only [Stp.beq,aU,beq_iff_eq] at h;obtain ⟨h1,h2,h3,h4⟩:=h;have:=aS h1;simp_all
def qY:List Stp→List Stp→Bool
 | [],[]=>true
 | a::r,b::r'=>a.beq b&&qY r r'
 | _,_=>false
theorem sr:∀{a b:List Stp},qY a b=true→a=b
 | [],[],_=>rfl
 | a::r,b::r',h=>by
  simp only [qY,aU] at h;rw [Stp.beq_eq h.1,sr h.2]
 | [],_::_,h=>by cases h
 | _::_,[],h=>by cases h
abbrev rO:=List (Stp×Nat×List Nat)
def D0 (s:Stp):rO→Option (Nat×List Nat)
 | []=>none
 | x::r=>bif s.beq x.1 then some x.2 else D0 s r
theorem yM {s:Stp} {p:Nat×List Nat}:∀{ss:rO},D0 s ss=some p→(s,p)∈ss
 | [],h=>by cases h
 | x::r,h=>by
  simp only [D0] at h
  cases hb:s.beq x.1 with
  | true =>
   rw [hb] at h;simp only [cond_true] at h;injection h with h;rw [Stp.beq_eq hb,←h];exact aT ..
  | false=>rw [hb] at h;exact aM _ (yM h)
theorem tI {x:Nat}:∀{l:List Nat},nK x l=true→x∈l
 | [],h=>by cases h
 | y::r,h=>by
  simp only [nK] at h
  cases hb:Nat.beq x y with
  | true=>rw [aS hb];exact aT ..
  | false=>rw [hb] at h;exact aM _ (tI h)
theorem tH {x:Nat}:∀{l:List Nat},x∈l→nK x l=true
 | [],h=>by cases h
 | y::r,h=>by
  simp only [nK]
  by_cases e:x=y
  ·subst e;simp
  ·rw [kI e];exact tH ((aW.1 h).resolve_left e)
def qw (ss:rO) (all:List Nat) (tail:List Stp):List Nat→List Stp→Bool
 | done,p=>bif qY p tail then all.all (fun i=>nK i done) else match p with
  | []=>false
  | s::r=>(match D0 s ss with
   | some x => !s.rd&&x.2.all (fun j=>nK j done) && !(nK s.idx done)&&qw ss all tail (s.idx::done) r
   | none=>false)
theorem dR.any {ops:List Oper} {ss:rO} {all:List Nat} {tail:List Stp} {rd:List (Nat×V)} {Inv:List Nat→Fr→H→Prop} {Q:Fr→H→Prop}
  (step:∀s d need,(s,d,need)∈ss→∀done fr h,(∀j∈need,j∈done)→s.idx∉done→Inv done fr h→qh E ops s rd fr h (Inv (s.idx::done)))
  (fin:∀done fr h,(∀i∈all,i∈done)→Inv done fr h→dR E ops tail rd fr h Q) :
  ∀{p:List Stp} {done:List Nat} {fr:Fr} {h:H},qw ss all tail done p=true→Inv done fr h→dR E ops p rd fr h Q:=by
 intro p
 induction p with
 | nil =>
  intro done fr h ho hi;unfold qw at ho
  cases hb:qY [] tail with
  | false=>rw [hb] at ho;cases ho
  | true =>
   rw [hb] at ho;simp only [cond_true,bH] at ho;rw [sr hb];exact fin done fr h (fun i hi=>tI (ho i hi)) hi
 | cons s r ih =>
  intro done fr h ho hi;unfold qw at ho
  cases hb:qY (s::r) tail with
  | true =>
   rw [hb] at ho;simp only [cond_true,bH] at ho;rw [sr hb];exact fin done fr h (fun i hi=>tI (ho i hi)) hi
  | false =>
   rw [hb] at ho;simp only [cond_false] at ho
   split at ho
   ·rename_i x hx;simp only [aU,Bool.not_eq_true',bH] at ho;obtain ⟨⟨⟨h1,h2⟩,h3⟩,h4⟩:=ho;refine qh.plan h1 ((step s x.1 x.2 (yM hx) done fr h (fun j hj=>tI (h2 j hj)) (fun hm=>by rw [tH hm] at h3;cases h3) hi).mono fun fr h hi=>ih h4 hi)
   ·cases ho
def DC:rO→List Nat
 | []=>[]
 | x::r=>x.2.1::DC r
structure DInv (h0:H) (ts0:T V) (nt fn:Nat) (ss:rO) (P:Nat→V→H→Prop) (done:List Nat) (ts:T V) (h:H):Prop where
 fix:Fix (·<h0.bX) h0 h
 keep:∀t,nK t (DC ss)=false→ts.get t=ts0.get t
 have_:∀s d need,(s,d,need)∈ss→s.idx∈done→∃v,ts.get d=some v∧P s.idx v h
def Ar:rO→Bool
 | []=>true
 | x::r => !(nK x.2.1 (DC r))&&r.all (fun y => !(Nat.beq x.1.idx y.1.idx))&&Ar r
theorem zx {s s':Stp} {d d':Nat} {l l':List Nat}:∀{ss:rO},Ar ss=true→(s,d,l)∈ss→(s',d',l')∈ss→(s,d,l)=(s',d',l')∨(d≠d'∧s.idx≠s'.idx)
 | [],_,h,_=>by cases h
 | x::r,ho,h,h'=>by
  simp only [Ar,aU,Bool.not_eq_true',bH] at ho
  have hd:∀{y:Stp×Nat×List Nat} {r:rO},y∈r→y.2.1∈DC r:=by
   intro y r
   induction r with
   | nil=>intro h;cases h
   | cons z r ih =>
    intro h
    rcases aW.1 h with rfl|h
    ·exact aT ..
    ·exact aM _ (ih h)
  have ne:∀{y},y∈r→x.2.1≠y.2.1∧x.1.idx≠y.1.idx:=fun {y} hy=>⟨fun e=>by
    have:=tH (hd hy);rw [←e] at this;rw [this] at ho;exact absurd ho.1.1 (by simp),fun e=>by
    have:=ho.1.2 y hy
    rw [e] at this;simp at this⟩
  rcases aW.1 h with e|h1
  ·rcases aW.1 h' with e'|h2
   ·exact .inl (e.trans e'.symm)
   ·subst e;have:=ne h2;exact .inr this
  ·rcases aW.1 h' with e'|h2
   ·subst e';have:=ne h1;exact .inr ⟨this.1.symm,this.2.symm⟩
   ·exact zx ho.2 h1 h2
theorem dR.fresh {ops:List Oper} {ss:rO} {all:List Nat} {tail:List Stp} {rd:List (Nat×V)} {Q:Fr→H→Prop} {h0:H} {ts0:T V} {nt fn:Nat} {mks:List D} {rnd:Option Nat} {P:Nat→V→H→Prop} (hd:Ar ss=true)
  (stable:∀s d need,(s,d,need)∈ss→∀v h h',P s.idx v h→Fix (·<h.bX) h h'→P s.idx v h')
  (step:∀s d need,(s,d,need)∈ss→∀ts h,Fix (·<h0.bX) h0 h→(∀t,nK t (DC ss)=false→ts.get t=ts0.get t)→(∀s' d' need',(s',d',need')∈ss→s'.idx∈need→∃v,ts.get d'=some v∧P s'.idx v h) →
   qh E ops s rd ⟨ts,nt,mks,fn,rnd⟩ h fun fr' h'=>∃v,fr'=⟨ts.set d v,nt,mks,fn,rnd⟩∧Fix (·<h.bX) h h'∧P s.idx v h')
  (fin:∀ts h,Fix (·<h0.bX) h0 h→(∀t,nK t (DC ss)=false→ts.get t=ts0.get t)→(∀s d need,(s,d,need)∈ss→s.idx∈all→∃v,ts.get d=some v∧P s.idx v h)→dR E ops tail rd ⟨ts,nt,mks,fn,rnd⟩ h Q)
  {p:List Stp} (hp:qw ss all tail [] p=true):dR E ops p rd ⟨ts0,nt,mks,fn,rnd⟩ h0 Q:=by
 have mem_dst:∀{ss:rO} {s:Stp} {d:Nat} {l:List Nat},(s,d,l)∈ss→nK d (DC ss)=true:=by
  intro ss s d l hm;refine tH ?_
  induction ss with
  | nil=>cases hm
  | cons x r ih =>
   rcases aW.1 hm with rfl|hm
   ·exact aT ..
   ·exact aM _ (ih hm)
 refine dR.any (Inv:=fun done fr h=>∃ts,fr=⟨ts,nt,mks,fn,rnd⟩∧DInv h0 ts0 nt fn ss P done ts h) ?_ ?_ hp ⟨ts0,rfl,Fix.refl _ _,fun _ _=>rfl,fun _ _ _ _ h=>by cases h⟩
 ·rintro s d need hm done fr h hneed hnot ⟨ts,rfl,inv⟩
  refine (step s d need hm ts h inv.fix inv.keep fun s' d' need' hm' hi=>inv.have_ s' d' need' hm' (hneed _ hi)).mono ?_
  rintro fr' h' ⟨v,rfl,ff,hP⟩
  refine ⟨_,rfl,⟨inv.fix.trans (ff.sub fun x hx=>Nat.lt_of_lt_of_le hx inv.fix.bX),fun t ht=>?_,fun s' d' need' hm' hi=>?_⟩⟩
  ·have:t≠d:=by rintro rfl;rw [mem_dst hm] at ht;cases ht
   rw [T.get_set,if_neg this];exact inv.keep t ht
  ·rcases zx hd hm hm' with e|⟨e1,e2⟩
   ·injection e with e1 e2;injection e2 with e2 e3;subst e1 e2;exact ⟨v,by rw [T.get_set,if_pos rfl],hP⟩
   ·obtain ⟨w,w1,w2⟩:=inv.have_ s' d' need' hm' ((aW.1 hi).resolve_left e2.symm);exact ⟨w,by rw [T.get_set,if_neg e1.symm];exact w1,stable s' d' need' hm' w h h' w2 ff⟩
 ·rintro done fr h hall ⟨ts,rfl,inv⟩
  exact fin ts h inv.fix inv.keep fun s d need hm hi=>inv.have_ s d need hm (hall _ hi)
def uJ:List Stp→List Stp→Option (List Stp)
 | [],p=>some p
 | _::_,[]=>none
 | a::r,b::p=>bif a.beq b then uJ r p else none
theorem zD:∀{a p q:List Stp},uJ a p=some q→p=a++q
 | [],p,q,h=>by injection h
 | _::_,[],q,h=>by cases h
 | a::r,b::p,q,h=>by
  simp only [uJ] at h
  cases hb:a.beq b with
  | true=>rw [hb] at h;rw [←Stp.beq_eq hb,zD (show uJ r p=some q from h)];rfl
  | false=>rw [hb] at h;cases h
def Ac (pre:List Stp) (ss:rO) (all:List Nat) (tail:List Stp) (plans:List (List Stp)):Bool :=
 plans.all fun p=>match uJ pre p with
  | some q=>qw ss all tail [] q
  | none=>false
theorem BJ {pre:List Stp} {ss:rO} {all:List Nat} {tail:List Stp} {plans:List (List Stp)} (h:Ac pre ss all tail plans=true) {p:List Stp} (hp:p∈plans):∃q,p=pre++q∧qw ss all tail [] q=true:=by
 simp only [Ac,bH] at h;have:=h p hp
 split at this
 ·rename_i q hq;exact ⟨q,zD hq,this⟩
 ·cases this
def BK (E:Env) (ops:List Oper) (pre:List Stp) (ss:rO) (all:List Nat) (tail:List Stp):Bool:=match C9 E ops with
 | some ps=>Ac pre ss all tail ps
 | none=>false
theorem WC.draw2 {id:Nat} {ops:Array Oper} {fr:Fr} {h:H} {Q:Ex→Fr→H→Prop} {pre:List Stp} {ss:rO} {all:List Nat} {tail:List Stp} (hp:BK E ops.toList pre ss all tail=true) (k:∀q,qw ss all tail [] q=true→dR E ops.toList (pre++q) [] fr h fun fr h=>Q .normal fr h):WC E (.region id ops true) fr h Q:=by
 unfold BK at hp
 split at hp
 ·rename_i ps hps;refine WC.draw hps fun p hm=>?_;obtain ⟨q,rfl,hq⟩:=BJ hp hm;exact k q hq
 ·cases hp
def El (h:H) (e:Nat) (s:V):Prop:=∀b o n c,s=.slice b o n c→∃t m d k,h.t.get b=some (.cells t m d e k)
theorem El.fix {h h':H} {K:Nat→Prop} {e:Nat} {s:V} (a:El h e s) (hs:In K s) (f:Fix K h h'):El h' e s:=fun b o n c q=>by
 obtain ⟨t,m,d,k,w⟩:=a b o n c q;exact ⟨t,m,d,k,by rw [f.ca b (hs _ _ _ _ q)];exact w⟩
theorem Sl.one {h:H} {sz n:Nat} {s:V} {vs:List V} (a:Sl E h sz s n vs):V.cells s=[s]∧V.one s=true:=by
 have:=a.len;unfold iu at this
 split at this<;>first|exact ⟨rfl,rfl⟩|cases this
theorem wt {h:H} {t t2 e sz m b:Nat} {x:V} {ws:List V} {i j ei:TI} {Q:V→H→Prop} {tt:T V} {N:Nat} {d:List V} {kk:Nat} (hb:h.t.get b=some (.cells tt N d e kk)) (hlt:b<h.bX)
  (ht:E.tys.get t=some i) (hd:i.desc=.slice e) (hj:E.tys.get t2=some j) (hjd:(∃e',j.desc=.slice e')∨j.desc=.string)
  (he:E.tys.get e=some ei) (hsz:ei.size=sz) (hpos:0<sz) (hb0:0<ei.bytes) (hl:iu x=some m) (hc:cX E h sz m x=some ws) (hw:ws.length=m * sz) (h1:ws.all V.one=true)
  (hsize:m * ei.bytes≤140737488355328)
  (k:∀s' h',Buf E h' e sz s' m ws→(∀b' o k c,s'=.slice b' o k c→(b'=b∨b'=h.bX)∧b'<h'.bX)→El h' e s'→Fix (·<h.bX) h h'→h'.bX≤h.bX+1→Q s' h'):ej (r1 (kv E h t t2 (.slice b 0 0 (.lit 0)) x)) Q:=by
 have happ:kv E h t t2 (.slice b 0 0 (.lit 0)) x=fK E h t (.slice b 0 0 (.lit 0)) x:=by
  unfold kv;rw [hj];rcases hjd with ⟨e',q⟩|q<;>simp only [q]
 rw [happ];have hc':cX E h ei.size m x=some ws:=by rw [hsz];exact hc
 have hbs:Nat.blt 0 ei.bytes=true:=gF hb0;have hss:Nat.blt 0 ei.size=true:=gF (by omega);have bu:Buf E h e sz (.slice b 0 0 (.lit 0)) 0 []:=.lit hb (by rw [Nat.zero_mul];rfl)
 cases m with
 | zero =>
  have:ws=[]:=by simpa using hw
  subst this
  have e1:fK E h t (.slice b 0 0 (.lit 0)) x=some (.slice b 0 0 (.lit 0),h):=by
   have h2:Nat.ble (0 * ei.bytes) 140737488355328=true:=cQ (by simp);simp only [fK,ht,hd,he,hl,hc',List.all_nil,aV,cond_false,Nat.add_zero,h2,hbs,hss,Bool.and_self,cQ (aI 0),cond_true,gZ,bo]
  rw [e1,jz];refine k _ _ bu (fun b' o k c e=>by injection e with e;subst e;exact ⟨.inl rfl,hlt⟩) (fun b' o k c e=>by injection e with e;subst e;exact ⟨_,_,_,_,hb⟩) (Fix.refl _ _) (Nat.le_succ _)
 | succ m =>
  have hlen:ws.length=(m+1) * sz:=hw
  have e1:fK E h t (.slice b 0 0 (.lit 0)) x=some (.slice h.bX 0 (m+1) (.opn 0 0),(row h e ws 1).2):=by
   have h2:Nat.ble ((0+(m+1)) * ei.bytes) 140737488355328=true:=cQ (by rw [aH];exact hsize);have h3:Nat.ble (0+(m+1)) 0=false:=uI (by omega);have h4:=(Buf.sl bu).cells;rw [←hsz] at h4;rw [aH] at h2 h3;simp only [fK,ht,hd,he,hl,hc',h1,aV,cond_false,aH,h2,hbs,hss,Bool.and_self,h3,h4,grow,row,H.new,List.nil_append]
  rw [e1,jz];have:=mw (cs:=ws) (d:=[.nilp]);rw [hlen] at this;refine k _ _ (.opn (b:=h.bX) (t:=T.putL .lf 0 ws) (d:=[.nilp]) (k:=1) (by rw [jH,if_pos rfl,hlen]) (.inl rfl) this) (fun b' o k c e=>by injection e with e;subst e;exact ⟨.inr rfl,Nat.lt_succ_self _⟩) (fun b' o k c e=>by injection e with e;subst e;exact ⟨_,_,_,_,by rw [jH,if_pos rfl]⟩) (kP fun _ h=>h) (by rw [tA];exact aI _)
theorem CI {h:H} {fr:Fr} {d:Option Nat} {ty t:Nat} {p:String} {a:Array Edge} {g:Option (Nat×Bool)} {Q:V→H→Prop} {i:TI} (ht:E.tys.get ty=some i)
  (k:∀h',Has h' h.bX i.zero→(∃t m d k,h'.t.get h.bX=some (.cells t m d ty k))→h'.bX=h.bX+1→Fix (·<h.bX) h h'→Q (.ptr h.bX 0) h'):WOp E fr h ⟨d,.alloc ty,t,p,a,g⟩ Q:=by
 rw [DV];unfold AB;rw [ht];rw [jz];exact k _ vC ⟨_,_,_,_,by rw [jH,if_pos rfl]⟩ rfl (kP fun _ h=>h)
theorem IZ {fr:Fr} {k:Nat}:opd fr (.global k)=some (.gp k 0):=rfl
theorem IV {fr:Fr}:opd fr (.const (.pointer none))=some .nilp:=rfl
theorem IW {fr:Fr}:opd fr (.const (.map none))=some .nilm:=rfl
theorem IY {fr:Fr}:opd fr (.const .nilFunc)=some .nilf:=rfl
theorem IX {fr:Fr}:opd fr (.const .nilIface)=some .nili:=rfl
theorem FG {d:Option Nat} {t:Nat} {p:String} {a:Array Edge} {g:Option (Nat×Bool)} {fr:Fr} {h:H} {Q:V→H→Prop} {ty:Nat} {x:Operand}:WOp E fr h ⟨d,.sliceToArrayPointer ty x,t,p,a,g⟩ Q=ej (rv h ((opd fr x).bind fun u=>pv E ty u)) Q:=by
 simp only [WOp,opV]
 cases opd fr x<;>rfl
end
def wm:=And.intro @FG (And.intro @IZ (And.intro @IV (And.intro @IW (And.intro @IY @IX))))
section
variable {E : Env}
theorem x_then0 {b:Code} {Q:Ex→Fr→H→Prop} {fr:Fr} {h:H}:JM E b Q .normal fr h=WC E b fr h Q:=rfl
theorem x_then1 {b:Code} {Q:Ex→Fr→H→Prop} {fr:Fr} {h:H} {id:Nat}:JM E b Q (.exit id) fr h=Q (.exit id) fr h:=rfl
theorem x_then2 {b:Code} {Q:Ex→Fr→H→Prop} {fr:Fr} {h:H}:JM E b Q .ret fr h=Q .ret fr h:=rfl
theorem x_blk0 {id:Nat} {Q:Ex→Fr→H→Prop} {fr:Fr} {h:H}:Blk id Q .normal fr h=Q .normal fr h:=rfl
theorem x_blk1 {id id':Nat} {Q:Ex→Fr→H→Prop} {fr:Fr} {h:H}:Blk id Q (.exit id') fr h=bif Nat.beq id id' then Q .normal fr h else Q (.exit id') fr h:=rfl
theorem x_blk2 {id:Nat} {Q:Ex→Fr→H→Prop} {fr:Fr} {h:H}:Blk id Q .ret fr h=Q .ret fr h:=rfl
theorem x_pick {b:Bool} {x y:Option V}:pickV (.bool b) x y=bif b then x else y:=rfl
theorem x_c0 {v:Value}:iH (.const v)=true:=rfl
theorem x_c1 {t:Nat}:iH (.tmp t)=false:=rfl
theorem x_c2 {t:Nat}:iH (.global t)=false:=rfl
theorem x_c3 {t:Nat}:iH (.func t)=false:=rfl
theorem x_n0 {b o:Nat}:mz (.ptr b o)=some (.ptr b o):=rfl
theorem x_n1 {b o:Nat}:mz (.gp b o)=some (.gp b o):=rfl
theorem x_n2 {f:Nat} {a c:List V}:mz (.func f a c)=some (.func f a c):=rfl
theorem x_n3 {b:Nat}:mz (.yield b)=some (.yield b):=rfl
theorem x_n4 {t:Nat} {v:V}:mz (.iface t v)=some (.iface t v):=rfl
theorem x_ext {vs:List V} {i:Nat}:Ch (.tuple vs) i=nth vs i:=rfl
theorem x_nth0 {α:Type} {x:α} {r:List α}:nth (x::r) 0=some x:=rfl
theorem x_nth1 {α:Type} {x:α} {r:List α} {k:Nat}:nth (x::r) (k+1)=nth r k:=rfl
theorem x_nth2 {α:Type} {k:Nat}:nth ([]:List α) k=none:=rfl
theorem x_want {fr:Fr} {g:Oper} {want:Bool}:wantJ fr (some g) want=(match g.dst with
  | some d=>(match fr.ts.get d with
   | some (.bool b)=>some (b==want)
   | some (.tuple [])=>some false
   | _=>none)
  | none=>none):=rfl
end
def wx:=And.intro @x_then0 (And.intro @x_then1 (And.intro @x_then2 (And.intro @x_blk0 (And.intro @x_blk1 (And.intro @x_blk2 (And.intro @x_pick (And.intro @x_c0 (And.intro @x_c1 (And.intro @x_c2 (And.intro @x_c3 (And.intro @x_n0 (And.intro @x_n1 (And.intro @x_n2 (And.intro @x_n3 (And.intro @x_n4 (And.intro @x_ext (And.intro @x_nth0 (And.intro @x_nth1 (And.intro @x_nth2 (And.intro @x_want wm))))))))))))))))))))
def aE:=And.intro @wk (And.intro @wl @wx)
def af:=And.intro @wd (And.intro @and_true @true_and)
def ak:=And.intro @List.mem_cons.{0} (And.intro @List.not_mem_nil.{0} (And.intro @or_false (And.intro @forall_eq_or_imp.{1} @forall_eq.{1})))
def ae:=And.intro @Bool.true_or (And.intro @Bool.false_or (And.intro @Bool.true_and @Bool.false_and))
def aC:=And.intro @List.take_succ_cons.{0} @List.take_zero.{0}
theorem aD:True:=trivial
section
open Nat renaming reduceLT → rL, reduceEqDiff → rD, reduceBEq → rB
theorem az {p q:Prop} (k:q) (e:p=q:=by ((try simp only [aE,rL,rD,rB,reduceIte]);exact rfl)):p:=e▸k
theorem am {p q:Prop} (k:q) (e:p=q:=by ((try simp (maxSteps:=2000000) only [aE,rL,rD,rB,reduceIte,af,Chk]);exact rfl)):p:=e▸k
theorem ap {p q:Prop} (k:q) (e:q→p:=by (intro k;(repeat refine WC.seq ?_);refine WC.run ?_;exact k)):p:=e k
theorem aw {p q:Prop} (k:q) (e:q→p:=by (intro k;(repeat refine WC.seq ?_);exact k)):p:=e k
theorem ao {p q:Prop} (k:q) (e:q→p:=by (intro k;(repeat refine WC.seq ?_);refine WC.block ?_;exact k)):p:=e k
theorem ax {p q:Prop} (k:q) (e:q→p:=by (intro k;(try simp only [aE,rL,rD,rB,reduceIte]);(repeat refine WC.seq ?_);refine WC.run ?_;exact k)):p:=e k
theorem au {p q:Prop} (k:q) (e:q→p:=by (intro k;(repeat refine WC.seq ?_);refine WC.run ?_;(try simp only [aE,rL,rD,rB,reduceIte]);exact k)):p:=e k
theorem ay {p q:Prop} (k:q) (e:q→p:=by (intro k;(try simp only [aE,rL,rD,rB,reduceIte]);(repeat refine WC.seq ?_);refine WC.run ?_;(try simp only [aE,rL,rD,rB,reduceIte]);exact k)):p:=e k
theorem aG {E:Env} {c:Operand} {x y:Code} {fr:Fr} {h:H} {Q:Ex→Fr→H→Prop} (k:WC E x fr h Q) (e:opd fr c=some (.bool true):=by ((try simp only [aE,rL,rD,rB,reduceIte]);(try simp);(try omega))):WC E (.cond c x y) fr h Q:=WC.cond (b:=true) e k
theorem aF {E:Env} {c:Operand} {x y:Code} {fr:Fr} {h:H} {Q:Ex→Fr→H→Prop} (k:WC E y fr h Q) (e:opd fr c=some (.bool false):=by ((try simp only [aE,rL,rD,rB,reduceIte]);(try simp);(try omega))):WC E (.cond c x y) fr h Q:=WC.cond (b:=false) e k
end
end Go.Ev
