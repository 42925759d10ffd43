/- Steps of a walk that change memory. -/
import Derived.Test.YtloblhhnlaaajaaDoorY11
set_option linter.unusedVariables false
set_option linter.unusedSimpArgs false
set_option linter.defProp false
namespace Go.Ev
open Go
def Has (h:H) (b:Nat) (cs:List V):Prop:=∃t d e k,h.t.get b=some (.cells t cs.length d e k)∧dT t cs.length d 0 cs.length=some cs
def o5 (cs:List V) (o:Nat) (vs:List V):List V:=cs.take o++vs++cs.drop (o+vs.length)
section
variable {E : Env} {K : Nat → Prop} {h h' : H}
theorem Has.fix {b:Nat} {cs:List V} (a:Has h b cs) (f:Fix K h h') (hb:K b:=by omega):Has h' b cs:=by
 obtain ⟨t,d,e,k,h1,h2⟩:=a;exact ⟨t,d,e,k,by rw [f.ca b hb];exact h1,h2⟩
theorem Has.at {b:Nat} {cs:List V} (a:Has h b cs) {ty:Nat} {i:TI} (ht:E.tys.get ty=some i) (hi:i.agg=false) (o:Nat):cx E h ty (.ptr b o)=cs[o]?:=by
 obtain ⟨t,d,e,k,h1,h2⟩:=a;simp only [cx,p6,ht,h1,hi,cond_false];obtain ⟨q1,q2⟩:=du h2
 by_cases ho:o<cs.length
 ·have:=q2 o ho;rwa [aH] at this
 ·rw [List.getElem?_eq_none (by omega)];unfold eH
  have:Nat.blt o cs.length=false:=by
   cases hb:Nat.blt o cs.length with
   | false=>rfl
   | true => have : o < cs.length := by simpa using hb
             omega
  rw [this];rfl
theorem Has.agg {b:Nat} {cs:List V} (a:Has h b cs) {ty:Nat} {i:TI} (ht:E.tys.get ty=some i) (hi:i.agg=true) {o:Nat} (ho:o+i.size≤cs.length):cx E h ty (.ptr b o)=some (.agg ((cs.drop o).take i.size)):=by
 obtain ⟨t,d,e,k,h1,h2⟩:=a;obtain ⟨q1,q2⟩:=du h2;simp only [cx,p6,ht,h1,hi,cond_true]
 rw [eu (vs:=(cs.drop o).take i.size) (by simp;omega) (fun j hj=>by
  have:=q2 (o+j) (by omega);rw [aH] at this
  rw [this,List.getElem?_take,if_pos hj,List.getElem?_drop])]
 rfl
theorem vC {e k:Nat} {cs:List V}:Has (row h e cs k).2 h.bX cs :=
 ⟨_,_,_,_,by rw [jH,if_pos rfl],mw⟩
theorem cz {fr:Fr} {d:Option Nat} {ty t:Nat} {p:String} {a:Array Edge} {g:Option (Nat×Bool)} {Q:V→H→Prop} {i:TI} (ht:E.tys.get ty=some i)
  (k:∀h',Has h' h.bX i.zero→h'.bX=h.bX+1→Fix (·<h.bX) h h'→Q (.ptr h.bX 0) h'):WOp E fr h ⟨d,.alloc ty,t,p,a,g⟩ Q:=by
 rw [DV];unfold AB;rw [ht];rw [jz];exact k _ vC rfl (kP fun _ h=>h)
theorem eI {fr:Fr} {d:Option Nat} {ty t:Nat} {x:Operand} {p:String} {a:Array Edge} {g:Option (Nat×Bool)} {Q:V→H→Prop} {v:V} (hx:opd fr x=some v)
  (k:∀h',Has h' h.bX v.cells→h'.bX=h.bX+1→Fix (·<h.bX) h h'→Q (.ptr h.bX 0) h'):WOp E fr h ⟨d,.box ty x,t,p,a,g⟩ Q:=by
 rw [w_box,hx,bQ,jz];exact k _ vC rfl (kP fun _ h=>h)
theorem mR {cs vs:List V} {o:Nat} (h:o+vs.length≤cs.length) (j:Nat):(o5 cs o vs)[j]?=if o≤j∧j<o+vs.length then vs[j - o]? else cs[j]?:=by
 unfold o5;have e1:(cs.take o).length=o:=by simp;omega
 by_cases h1:j<o
 ·rw [if_neg (by omega),bV,List.getElem?_append_left (by omega),List.getElem?_take,if_pos h1]
 ·by_cases h2:j<o+vs.length
  ·rw [if_pos ⟨by omega,h2⟩,bV,List.getElem?_append_right (by omega),e1,List.getElem?_append_left (by omega)]
  ·rw [if_neg (by omega),List.getElem?_append_right (by simp;omega),List.getElem?_drop]
   congr 1
   simp only [aQ,e1];omega
theorem fO {cs vs:List V} {o:Nat} (h:o+vs.length≤cs.length):(o5 cs o vs).length=cs.length:=by
 unfold o5;simp;omega
theorem cq {ty b o:Nat} {v:V} {cs:List V} {Q:V→H→Prop} (a:Has h b cs) {i:TI} (ht:E.tys.get ty=some i) (hl:v.cells.length=i.size) (ho:o+i.size≤cs.length) (h1:v.cells.all V.one=true)
  (k:∀h',Has h' b (o5 cs o v.cells)→h'.bX=h.bX→Fix (·≠b) h h'→Q un h'):ej (rh (su E h ty (.ptr b o) v)) Q:=by
 obtain ⟨t,d,e,kk,q1,q2⟩:=a;have hbeq:Nat.beq v.cells.length i.size=true:=by rw [hl];simp
 simp only [su,pB,ht,hbeq,cond_true]
 rcases hc:v.cells with _|⟨c0,cr⟩
 ·simp only [gZ,pE];refine k h ?_ rfl (Fix.refl _ _);rw [hc];have:o5 cs o []=cs:=by unfold o5;simp
  rw [this];exact ⟨t,d,e,kk,q1,q2⟩
 ·have hle:Nat.ble (o+v.cells.length) cs.length=true:=cQ (by rw [hl];exact ho);simp only [gZ,q1,←hc,hle,h1,Bool.and_self,cond_true,pE];have hlen:o+v.cells.length≤cs.length:=by rw [hl];exact ho
  refine k _ ⟨t.putL o v.cells,d,e,kk,?_,?_⟩ rfl ⟨aI _,fun c hc=>?_⟩
  ·simp only [H.put,T.get_set,if_true,fO hlen]
  ·rw [fO hlen];refine eu (fO hlen) (fun j hj=>?_);rw [aH,jo hlen,mR hlen]
   split
   ·rfl
   ·have:=(du q2).2 j hj;rwa [aH] at this
  ·simp only [H.put,T.get_set];rw [if_neg hc]
theorem df {t t2 e sz n m:Nat} {s x:V} {vs ws:List V} {i j ei:TI} {Q:V→H→Prop} (b:Buf E h e sz s n vs) (ht:E.tys.get t=some i) (hd:i.desc=.slice e) (hj:E.tys.get t2=some j) (hjd:(∃e',j.desc=.slice e')∨j.desc=.string)
  (he:E.tys.get e=some ei) (hsz:ei.size=sz) (hpos:0<sz) (hb0:0<ei.bytes) (hl:iu x=some m) (hc:cX E h sz m x=some ws) (hw:ws.length=m * sz) (h1:ws.all V.one=true)
  (hsize:(n+m) * ei.bytes≤140737488355328) (hlow:In (·<h.bX) s)
  (k:∀s' h',Buf E h' e sz s' (n+m) (vs++ws)→In (·<h'.bX) s'→(∀b o k c,s'=.slice b o k c→b=h.bX∨∃o k c,s=.slice b o k c)→Fix (fun c=>c<h.bX∧∀o k cc,s≠.slice c o k cc) h h'→Q s' h'):ej (r1 (kv E h t t2 s x)) Q:=by
 obtain ⟨s',h',a1,a2,a3,a4,a5,_,_⟩:=b.append (K:=fun c=>c<h.bX∧∀o k cc,s≠.slice c o k cc) ht hd hj hjd he hsz hpos hb0 hl hc hw h1 hsize (fun c h=>h.1) (fun b o n c e h=>h.2 _ _ _ e) hlow;rw [a1,jz];exact k s' h' a2 a4 a5 a3
def IS {α:Type} (x:Option α) (f:α→Prop):Prop:=match x with|some v=>f v|none=>False
theorem GI {α:Type} {v:α} {f:α→Prop}:IS (some v) f=f v:=rfl
def resR (E:Env) (ts:T V) (h:H):ResultVar→Option V
 | .tmp t=>ts.get t
 | .cell a t=>(ts.get a).bind fun p=>match p with|.ptr b o=>cx E h t (.ptr b o)|_=>none
theorem resV_eq {ts:T V} {nt fn:Nat} {mks:List D} {rnd:Option Nat} {h:H}:∀{r:ResultVar} {rs:List ResultVar},resV E ⟨ts,nt,mks,fn,rnd⟩ h (r::rs)=(resR E ts h r).bind fun v=>(resV E ⟨ts,nt,mks,fn,rnd⟩ h rs).bind fun vs=>some (v::vs)
 | .tmp t,rs=>by
  simp only [resV,resR]
  cases ts.get t with
  | none=>rfl
  | some v=>cases resV E ⟨ts,nt,mks,fn,rnd⟩ h rs<;>rfl
 | .cell a t,rs=>by
  simp only [resV,resR]
  cases ha:ts.get a with
  | none=>rfl
  | some p =>
   cases p with
   | ptr b o =>
    simp only [bQ,cx]
    cases p6 E h t b o with
    | none=>rfl
    | some v=>cases resV E ⟨ts,nt,mks,fn,rnd⟩ h rs<;>rfl
   | _=>rfl
theorem Ig {fr:Fr} {h:H}:resV E fr h []=some []:=rfl
theorem fin_ret {i:FI} {Q:V→H→Prop} {ts:T V} {nt fn:Nat} {rnd:Option Nat} {h:H}:Fin E i Q .ret ⟨ts,nt,[],fn,rnd⟩ h=IS (resV E ⟨ts,nt,[],fn,rnd⟩ h i.res) fun vs=>Q (og vs) h:=by
 simp only [Fin,jF,IS]
 cases resV E ⟨ts,nt,[],fn,rnd⟩ h i.res<;>rfl
theorem Dx {i:FI} {Q:V→H→Prop} {ts:T V} {nt fn:Nat} {rnd:Option Nat} {h:H}:Fin E i Q .normal ⟨ts,nt,[],fn,rnd⟩ h=IS (resV E ⟨ts,nt,[],fn,rnd⟩ h i.res) fun vs=>Q (og vs) h:=by
 simp only [Fin,jF,IS]
 cases resV E ⟨ts,nt,[],fn,rnd⟩ h i.res<;>rfl
theorem one_one {v:V}:og [v]=v:=rfl
theorem one_two {u v:V} {r:List V}:og (u::v::r)=.tuple (u::v::r):=rfl
theorem Ih {ts:T V} {h:H} {t:Nat}:resR E ts h (.tmp t)=ts.get t:=rfl
theorem Gw {ts:T V} {h:H} {a t:Nat}:resR E ts h (.cell a t)=(ts.get a).bind fun p=>match p with|.ptr b o=>cx E h t (.ptr b o)|_=>none:=rfl
structure Grew (E:Env) (e sz:Nat) (h:H) (s:V) (h':H) (s':V) (n:Nat) (vs:List V):Prop where
 buf:Buf E h' e sz s' n vs
 low:In (·<h'.bX) s'
 fix:Fix (fun c=>c<h.bX∧∀o m cc,s≠.slice c o m cc) h h'
 own:∀b o k c,s'=.slice b o k c→h.bX≤b∨∃o k c,s=.slice b o k c
theorem Grew.refl {e sz n:Nat} {s:V} {vs:List V} (b:Buf E h e sz s n vs) (l:In (·<h.bX) s):Grew E e sz h s h s n vs :=
 ⟨b,l,Fix.refl _ _,fun _ _ _ _ e=>.inr ⟨_,_,_,e⟩⟩
theorem Grew.trans {e sz n1 n2:Nat} {h h1 h2:H} {s s1 s2:V} {vs1 vs2:List V} (a:Grew E e sz h s h1 s1 n1 vs1) (b:Grew E e sz h1 s1 h2 s2 n2 vs2):Grew E e sz h s h2 s2 n2 vs2:=by
 refine ⟨b.buf,b.low,⟨Nat.le_trans a.fix.bX b.fix.bX,fun c hc=>?_⟩,fun b' o k c e'=>?_⟩
 ·rw [b.fix.ca c ⟨Nat.lt_of_lt_of_le hc.1 a.fix.bX,fun o m cc e=>?_⟩]
  ·exact a.fix.ca c hc
  ·rcases a.own _ _ _ _ e with q|⟨o,k,c',q⟩
   ·omega
   ·exact hc.2 _ _ _ q
 ·rcases b.own _ _ _ _ e' with q|⟨o,k,c',q⟩
  ·exact .inl (Nat.le_trans a.fix.bX q)
  ·exact a.own _ _ _ _ q
theorem Grew.len {e sz n m:Nat} {s s':V} {vs ws:List V} (a:Grew E e sz h s h' s' n vs) (e1:n=m) (e2:vs=ws):Grew E e sz h s h' s' m ws:=by subst e1 e2;exact a
theorem Grew.keep {e sz n:Nat} {h h1 h2:H} {s s':V} {vs:List V} (a:Grew E e sz h s h1 s' n vs) (f:Fix (·<h1.bX) h1 h2):Grew E e sz h s h2 s' n vs :=
 ⟨a.buf.fix a.low f,a.low.sub fun _ hx=>Nat.lt_of_lt_of_le hx f.bX,a.fix.trans (f.sub fun _ hx=>Nat.lt_of_lt_of_le hx.1 a.fix.bX) ,a.own⟩
theorem ql {t t2 e sz n m:Nat} {s x:V} {vs ws:List V} {i j ei:TI} {Q:V→H→Prop} (b:Buf E h e sz s n vs) (hlow:In (·<h.bX) s) (ht:E.tys.get t=some i) (hd:i.desc=.slice e) (hj:E.tys.get t2=some j) (hjd:(∃e',j.desc=.slice e')∨j.desc=.string)
  (he:E.tys.get e=some ei) (hsz:ei.size=sz) (hpos:0<sz) (hb0:0<ei.bytes) (hl:iu x=some m) (hc:cX E h sz m x=some ws) (hw:ws.length=m * sz) (h1:ws.all V.one=true)
  (hsize:(n+m) * ei.bytes≤140737488355328)
  (k:∀s' h',Grew E e sz h s h' s' (n+m) (vs++ws)→Q s' h'):ej (r1 (kv E h t t2 s x)) Q :=
 df b ht hd hj hjd he hsz hpos hb0 hl hc hw h1 hsize hlow fun s' h' a1 a2 a3 a4=>k s' h' ⟨a1,a2,a4,fun b o k c e=>(a3 b o k c e).imp (fun q=>by omega) id⟩
theorem de {t e sz n:Nat} {ps:List (Nat×V)} {cs:List V} {i ei:TI} {Q:V→H→Prop} (ht:E.tys.get t=some i) (hd:i.desc=.slice e) (he:E.tys.get e=some ei) (hsz:ei.size=sz) (hpos:0<sz) (hn:n * sz≤16777216)
  (hc:cW (fun k=>some (k * ei.size,ei.size)) (j8 ei.zero n) ps=some cs) (hl:cs.length=n * sz)
  (k:∀h',Buf E h' e sz (.slice h.bX 0 n (.lit n)) n cs→h'.bX=h.bX+1→Fix (·<h.bX) h h'→Q (.slice h.bX 0 n (.lit n)) h'):ej (r1 (iC E h t n ps)) Q:=by
 have h1:(Nat.ble (n * ei.size) 16777216&&Nat.blt 0 ei.size)=true:=by rw [hsz,cQ hn,gF hpos];rfl
 simp only [iC,ht,hd,he,h1,cond_true,hc,jz,Ea];refine k _ (.lit (by rw [jH,if_pos rfl]) ?_) rfl (kP fun _ h=>h);have:=mw (cs:=cs) (d:=[.nilp]);rw [hl] at this ⊢;exact this
theorem Jj {v z:V} (hv:v.cells=[v]):cW (fun k=>some (k * 1,1)) (j8 [z] 1) [(0,v)]=some [v]:=by
 simp [cW,j8,hv,se];rfl
theorem dU {t e:Nat} {v z:V} {i ei:TI} {Q:V→H→Prop} (ht:E.tys.get t=some i) (hd:i.desc=.slice e) (he:E.tys.get e=some ei) (hsz:ei.size=1) (hz:ei.zero=[z]) (hv:v.cells=[v])
  (k:∀h',Buf E h' e 1 (.slice h.bX 0 1 (.lit 1)) 1 [v]→h'.bX=h.bX+1→Fix (·<h.bX) h h'→Q (.slice h.bX 0 1 (.lit 1)) h'):ej (r1 (iC E h t 1 [(0,v)])) Q :=
 de ht hd he hsz (by decide) (by decide) (by rw [hsz,hz];exact Jj hv) rfl k
theorem jN {t e sz:Nat} {i ei:TI} {Q:V→H→Prop} (ht:E.tys.get t=some i) (hd:i.desc=.slice e) (he:E.tys.get e=some ei) (hsz:ei.size=sz) (hpos:0<sz)
  (k:∀h',Buf E h' e sz (.slice h.bX 0 0 (.lit 0)) 0 []→h'.bX=h.bX+1→Fix (·<h.bX) h h'→Q (.slice h.bX 0 0 (.lit 0)) h'):ej (r1 (iC E h t 0 [])) Q :=
 de ht hd he hsz hpos (by simp) rfl (by simp [j8]) k
end
structure Stp where
 idx:Nat
 eff:Bool
 rd:Bool
 chk:List Nat
section
variable (E : Env)
def kF:Nat→List Pn→Nat→List Nat→Option (List (List Stp))
 | _,[],_,_=>some [[]]
 | 0,_::_,_,_=>none
 | n+1,p::ps,done,rds=>match kx E done (p::ps) with
  | some (q,rest)=>(kF n rest (ee done q.1) (bif jP E q.2.2 then q.1::rds else rds)).map fun l=>l.map fun o=>⟨q.1,false,jP E q.2.2,[]⟩::o
  | none=>match jY E done (p::ps) with
   | []=>none
   | es=>es.foldr (fun x acc=>match kF n x.2 (ee done x.1.1) rds,acc with
    | some l,some r=>some ((l.map fun o=>⟨x.1.1,true,false,rds.filter fun k => !(Nat.testBit x.1.2.1 k)⟩::o)++r)
    | _,_=>none) (some [])
def C9 (ops:List Oper):Option (List (List Stp)) :=
 match iZ ops (pZ ops []) 0 with
 | ps=>bif xP ops ps then kF E (Nat.succ ops.length) ps 0 [] else none
def IsV (r:R (V×H)) (v:V):Prop :=
 match r with
 | some [(v',_)]=>v'=v
 | _=>False
def Chk (ops:List Oper) (fr:Fr) (h:H) (chk:List Nat):List (Nat×V)→Prop
 | []=>True
 | (k,v)::r=>(bif chk.contains k then (match nth ops k with
   | some o=>IsV (opV E lQ fr h o) v
   | none=>False) else True)∧Chk ops fr h chk r
def dR (ops:List Oper):List Stp→List (Nat×V)→Fr→H→(Fr→H→Prop)→Prop
 | [],_,fr,h,Q=>Q fr h
 | s::r,rd,fr,h,Q=>match nth ops s.idx with
  | none=>False
  | some o=>match dS fr ops o with
   | none=>False
   | some false=>(match fr.put o.dst un with
    | some fr'=>dR ops r rd fr' h Q
    | none=>False)
   | some true=>bif s.eff then WOp E fr h o fun v h'=>Chk E ops fr h' s.chk rd∧(match fr.put o.dst v with
     | some fr'=>dR ops r rd fr' h' Q
     | none=>False)
    else WOp E fr h o fun v _=>match fr.put o.dst v with
     | some fr'=>dR ops r (bif s.rd then (s.idx,v)::rd else rd) fr' h Q
     | none=>False
end
mutual
theorem V.beq_refl:∀(x:V),V.beq x x=true
 | .bool a=>by simp [V.beq]
 | .int k a=>by simp [V.beq]
 | .str s=>by simp [V.beq]
 | .ptr b o=>by simp [V.beq]
 | .gp b o=>by simp [V.beq]
 | .nilp=>by simp [V.beq]
 | .slice b o n c=>by cases c<;>simp [V.beq]
 | .nils=>by simp [V.beq]
 | .gsl a n c=>by simp [V.beq]
 | .map b=>by simp [V.beq]
 | .nilm=>by simp [V.beq]
 | .func f a c=>by simp [V.beq,V.beqL_refl a,V.beqL_refl c]
 | .yield b=>by simp [V.beq]
 | .nilf=>by simp [V.beq]
 | .iface t v=>by simp [V.beq,V.beq_refl v]
 | .nili=>by simp [V.beq]
 | .agg a=>by simp [V.beq,V.beqL_refl a]
 | .tuple a=>by simp [V.beq,V.beqL_refl a]
 | .sym i=>by simp [V.beq]
theorem V.beqL_refl:∀(x:List V),V.beqL x x=true
 | []=>by simp [V.beqL]
 | v::r=>by simp [V.beqL,V.beq_refl v,V.beqL_refl r]
end
section
variable {E : Env}
theorem BE:∀{ops:List Oper} {ms:List Nat} {i k m:Nat} {o:Oper},(k,m,o)∈iZ ops ms i→i≤k∧nth ops (k - i)=some o
 | [],ms,i,k,m,o,h=>by cases ms<;>simp [iZ] at h
 | x::r,[],i,k,m,o,h=>by simp [iZ] at h
 | x::r,m0::ms,i,k,m,o,h=>by
  simp only [iZ,aW] at h
  rcases h with h|h
  ·injection h with h1 h2;injection h2 with h2 h3;subst h1 h3;exact ⟨aI _,by simp [nth]⟩
  ·obtain ⟨h1,h2⟩:=BE h;refine ⟨by omega,?_⟩;rw [show k - i=(k - Nat.succ i)+1 by omega];exact h2
theorem yZ {done:Nat}:∀{ps:List Pn} {q:Pn} {rest:List Pn},kx E done ps=some (q,rest)→q∈ps∧(∀p∈rest,p∈ps)∧rest.length+1=ps.length
 | [],q,rest,h=>by cases h
 | p::r,q,rest,h=>by
  simp only [kx] at h
  cases hb:(!(iB E p.2.2)&&ip p.2.1 done) with
  | true =>
   rw [hb] at h;simp only [cond_true] at h;injection h with h;injection h with h1 h2;subst h1 h2;exact ⟨aT ..,fun x hx=>aM _ hx,rfl⟩
  | false =>
   rw [hb] at h;simp only [cond_false] at h
   split at h
   ·cases h
   ·rename_i q' r' hr;injection h with h;injection h with h1 h2;subst h1 h2;obtain ⟨a,b,c⟩:=yZ hr;refine ⟨aM _ a,fun x hx=>?_,by simp;omega⟩
    rcases aW.1 hx with rfl|hx
    ·exact aT ..
    ·exact aM _ (b x hx)
theorem BD {done:Nat}:∀{ps:List Pn} {x:Pn×List Pn},x∈jY E done ps→x.1∈ps∧(∀p∈x.2,p∈ps)∧x.2.length+1=ps.length
 | [],x,h=>by simp [jY] at h
 | p::r,x,h=>by
  simp only [jY,bN,bP] at h
  rcases h with h|⟨y,hy,rfl⟩
  ·cases hb:(iB E p.2.2&&ip p.2.1 done) with
   | true =>
    rw [hb] at h;simp only [cond_true,aN] at h;subst h;exact ⟨aT ..,fun x hx=>aM _ hx,rfl⟩
   | false=>rw [hb] at h;simp at h
  ·obtain ⟨a,b,c⟩:=BD hy;refine ⟨aM _ a,fun x hx=>?_,by simp;omega⟩
   rcases aW.1 hx with rfl|hx
   ·exact aT ..
   ·exact aM _ (b x hx)
theorem yN {ops:List Oper} {N m:Nat} {fr:Fr} {h:H} {rds:List Nat}:∀{rd:List (Nat×Oper×V)},(∀x∈rd,x.1∈rds∧nth ops x.1=some x.2.1) →
  Chk E ops fr h (rds.filter fun k => !(Nat.testBit m k)) (rd.map fun x=>(x.1,x.2.2))→g0 E (ev E N) m fr h rd=true
 | [],_,_=>rfl
 | (k,o,v)::r,hr,hc=>by
  obtain ⟨h1,h2⟩:=hr _ (aT ..);simp only [bI,Chk] at hc;simp only [g0,aU,bS];refine ⟨?_,yN (fun x hx=>hr x (aM _ hx)) hc.2⟩
  cases hb:Nat.testBit m k with
  | true=>exact .inl rfl
  | false =>
   refine .inr ?_
   have hcon:(rds.filter fun k => !(Nat.testBit m k)).contains k=true:=by
    simp only [List.contains_eq_mem,decide_eq_true_eq,List.mem_filter];exact ⟨h1,by simp [hb]⟩
   have hc1:=hc.1;rw [hcon] at hc1;simp only [cond_true,h2] at hc1;unfold IsV at hc1
   split at hc1
   ·rename_i v' h' ho;subst hc1;have:=mU (g':=E.globs) (fun _ _ h=>h) (xC (ev E N)) ho;simp only [sI];have this:opV E (ev E N) fr h o=some [(v',h')]:=this;rw [this];exact V.beq_refl _
   ·exact hc1.elim
theorem Ab {n m:Nat} (hle:n≤m) {all:List Oper} {f:Nat} {ps:List Pn} {done:Nat} {rd:List (Nat×Oper×V)} {fr:Fr} {h:H} {l:List (Fr×H)} (k:kw E (ev E n) all f ps done rd fr h=some l):kw E (ev E m) all f ps done rd fr h=some l :=
 my (g':=E.globs) (fun _ _ h=>h) (xI E hle) k
theorem mB:∀(f:Nat) (ps:List Pn) (done:Nat) (rds:List Nat),kF E f ps done rds≠some []
 | f,[],done,rds=>by cases f<;>simp [kF]
 | 0,_::_,_,_=>by simp [kF]
 | f+1,p::ps,done,rds=>by
  intro h;unfold kF at h
  split at h
  ·obtain ⟨l,hl,h2⟩:=aR.1 h;have:l=[]:=by simpa using h2
   subst this;exact mB _ _ _ _ hl
  ·cases hes:jY E done (p::ps) with
   | nil=>rw [hes] at h;cases h
   | cons x es =>
     rw [hes] at h;simp only [List.foldr_cons] at h
     split at h
     ·rename_i l r hl hr;injection h with h;have:=(List.append_eq_nil_iff.1 h).1;have:l=[]:=by simpa using this
      subst this;exact mB _ _ _ _ hl
     ·cases h
theorem single {fr:Fr} {h:H} {o:Oper} {ih:Rec} {l:List (V×H)} (hc:iB E o=false) (ho:opV E ih fr h o=some l):∃v h',l=[(v,h')]:=by
 have r:∀{x:Option V},rv h x=some l→∃v h',l=[(v,h')]:=fun hx=>by obtain ⟨v,_,rfl⟩:=eN hx;exact ⟨v,h,rfl⟩
 have r1':∀{x:Option (V×H)},r1 x=some l→∃v h',l=[(v,h')]:=fun hx=>by obtain ⟨v,_,rfl⟩:=kQ hx;exact ⟨v.1,v.2,rfl⟩
 have ro:∀{x:V×H},fQ x=some l→∃v h',l=[(v,h')]:=fun {x} hx=>by injection hx with hx;exact ⟨x.1,x.2,hx.symm⟩
 unfold iB ot at hc;unfold opV at ho
 cases hop:o.op with
 | call c =>
  obtain ⟨callee,args,tys⟩:=c;rw [hop] at hc ho
  cases callee with
  | builtin b =>
   cases b with
   | len =>
    cases ha:jf fr args.toList with
    | none=>simp [ha] at ho
    | some as =>
     simp only [ha,iP] at ho
     split at ho
     ·exact r ho
     ·cases ho
   | _=>simp at hc
  | value f=>simp at hc
  | invoke a b=>simp at hc
 | build t ps =>
  rw [hop] at ho;simp only at ho
  split at ho
  ·split at ho
   ·rename_i fs _
    cases hb:(!fs.toList.all fun f=>(E.tys.get f.type).isSome) with
    | true=>simp only [hb,cond_true] at ho;cases ho
    | false=>simp only [hb,cond_false] at ho;exact r ho
   ·split at ho
    ·exact r ho
    ·cases ho
   ·cases ho
  ·cases ho
 | _ =>
  rw [hop] at hc ho;simp only at hc ho
  first
   | (cases ho;done)
   | (cases hc;done)
   | exact r ho
   | exact r1' ho
   | (split at ho<;>first|exact r ho|exact r1' ho|exact ro ho|(cases ho;done)|(split at ho<;>first|exact ro ho|(cases ho;done)))
theorem WOp.sat {fr:Fr} {h:H} {o:Oper} {Q:V→H→Prop} (hc:iB E o=false) (k:WOp E fr h o Q):ej (opV E lQ fr h o) Q:=by
 unfold WOp at k;unfold iB ot at hc
 split at k
 ·rename_i c hop;rw [hop] at hc;simp only at hc
  split at k
  ·rename_i hcal;rw [hcal] at hc;simp at hc
  ·exact k
 ·exact k
theorem y8 {done:Nat}:∀{ps:List Pn} {q:Pn} {rest:List Pn},kx E done ps=some (q,rest)→iB E q.2.2=false
 | [],q,rest,h=>by cases h
 | p::r,q,rest,h=>by
  simp only [kx] at h
  cases hb:(!(iB E p.2.2)&&ip p.2.1 done) with
  | true =>
   rw [hb] at h;simp only [cond_true] at h;injection h with h;injection h with h1 h2;subst h1 h2;simp only [aU,Bool.not_eq_true'] at hb;exact hb.1
  | false =>
   rw [hb] at h;simp only [cond_false] at h
   split at h
   ·cases h
   ·rename_i q' r' hr;injection h with h;injection h with h1 h2;subst h1 h2;exact y8 hr
theorem dR.run {ops:List Oper}:∀{f:Nat} {ps:List Pn} {done:Nat} {rds:List Nat} {plans:List (List Stp)} {rd:List (Nat×Oper×V)} {fr:Fr} {h:H} {Q:Fr→H→Prop},
  kF E f ps done rds=some plans→(∀p∈ps,nth ops p.1=some p.2.2)→(∀x∈rd,x.1∈rds∧nth ops x.1=some x.2.1) →
  (∀p∈plans,dR E ops p (rd.map fun x=>(x.1,x.2.2)) fr h Q)→∃N r,kw E (ev E N) ops f ps done rd fr h=some r∧∀y∈r,Q y.1 y.2
 | f,[],done,rds,plans,rd,fr,h,Q,hp,_,_,hk=>by
  have:plans=[[]]:=by cases f<;>(simp [kF] at hp;exact hp.symm)
  subst this;have hq:=hk [] (by simp);refine ⟨0,[(fr,h)],by cases f<;>rfl,fun y hy=>?_⟩;rw [aN.1 hy];exact hq
 | 0,_::_,_,_,_,_,_,_,_,hp,_,_,_=>by cases hp
 | f+1,p::ps,done,rds,plans,rd,fr,h,Q,hp,hin,hrd,hk=>by
  unfold kF at hp;unfold kw
  split at hp
  ·rename_i q rest hq;obtain ⟨l,hl,rfl⟩:=aR.1 hp;obtain ⟨m1,m2,_⟩:=yZ hq;have hno:=hin q m1;simp only [hq];have hk':∀p∈l,dR E ops (⟨q.1,false,jP E q.2.2,[]⟩::p) (rd.map fun x=>(x.1,x.2.2)) fr h Q:=fun p hp=>hk _ (bP.2 ⟨p,hp,rfl⟩);simp only [dR,hno] at hk'
   cases hw:dS fr ops q.2.2 with
   | none =>
    simp only [hw] at hk'
    rcases l with _|⟨p0,l⟩
    ·exact absurd hl (mB _ _ _ _)
    ·exact (hk' p0 (aT ..)).elim
   | some b =>
    cases b with
    | false =>
     simp only [hw] at hk' ⊢
     cases hput:fr.put q.2.2.dst un with
     | none =>
      simp only [hput] at hk'
      rcases l with _|⟨p0,l⟩
      ·exact absurd hl (mB _ _ _ _)
      ·exact (hk' p0 (aT ..)).elim
     | some fr' =>
      simp only [hput] at hk' ⊢;refine dR.run hl (fun p hp=>hin p (m2 p hp)) (fun x hx=>?_) hk';obtain ⟨a,b⟩:=hrd x hx;refine ⟨?_,b⟩
      cases jP E q.2.2 with
      | true=>exact aM _ a
      | false=>exact a
    | true =>
     simp only [hw,cond_false] at hk' ⊢;have heff:=y8 hq
     rcases hl0:l with _|⟨p0,l0⟩
     ·subst hl0;exact absurd hl (mB _ _ _ _)
     ·have h0:=(hk' p0 (by rw [hl0];exact aT ..)).sat heff
      cases ho:opV E lQ fr h q.2.2 with
      | none=>rw [ho] at h0;exact h0.elim
      | some outs =>
       obtain ⟨v,h',rfl⟩:=single heff ho;have ho':∀N,opV E (ev E N) fr h q.2.2=some [(v,h')]:=fun N=>mU (g':=E.globs) (fun _ _ h=>h) (xC (ev E N)) ho;simp only [ho']
       have hk2:∀p∈l,(match fr.put q.2.2.dst v with
        | some fr'=>dR E ops p (bif jP E q.2.2 then (q.1,v)::rd.map (fun x=>(x.1,x.2.2)) else rd.map (fun x=>(x.1,x.2.2))) fr' h Q
        | none=>False):=fun p hp=>by
        have:=(hk' p hp).sat heff;rw [ho] at this;exact this _ (aN.2 rfl)
       cases hput:fr.put q.2.2.dst v with
       | none=>simp only [hput] at hk2;exact (hk2 p0 (by rw [hl0];exact aT ..)).elim
       | some fr' =>
        simp only [hput] at hk2 ⊢
        refine dR.run (rd:=bif jP E q.2.2 then (q.1,q.2.2,v)::rd else rd) hl (fun p hp=>hin p (m2 p hp)) (fun x hx=>?_) (fun p hp=>?_)
        ·cases hr:jP E q.2.2 with
         | true =>
          rw [hr] at hx
          rcases aW.1 hx with rfl|hx
          ·exact ⟨aT ..,hno⟩
          ·obtain ⟨a,b⟩:=hrd x hx;exact ⟨aM _ a,b⟩
         | false=>rw [hr] at hx;exact hrd x hx
        ·have:=hk2 p hp
         cases hr:jP E q.2.2 with
         | true=>rw [hr] at this;exact this
         | false=>rw [hr] at this;exact this
  ·rename_i hq;simp only [hq]
   split at hp
   ·cases hp
   ·rename_i es hes;have hes':∀x∈jY E done (p::ps),x.1∈p::ps∧(∀q∈x.2,q∈p::ps)∧x.2.length+1=(p::ps).length:=fun x hx=>BD hx
    have one:∀x∈jY E done (p::ps),∀l,kF E f x.2 (ee done x.1.1) rds=some l →
      (∀o∈l,dR E ops (⟨x.1.1,true,false,rds.filter fun k => !(Nat.testBit x.1.2.1 k)⟩::o) (rd.map fun x=>(x.1,x.2.2)) fr h Q) →
      ∃N r,(match dS fr ops x.1.2.2 with
       | none=>none
       | some false=>(match fr.put x.1.2.2.dst un with
        | some fr'=>kw E (ev E N) ops f x.2 (ee done x.1.1) rd fr' h
        | none=>none)
       | some true=>ji (opV E (ev E N) fr h x.1.2.2) fun y=>bif g0 E (ev E N) x.1.2.1 fr y.2 rd then (match fr.put x.1.2.2.dst y.1 with
        | some fr'=>kw E (ev E N) ops f x.2 (ee done x.1.1) rd fr' y.2
        | none=>none) else none)=some r∧∀y∈r,Q y.1 y.2:=by
     intro x hx l hl hk1;obtain ⟨m1,m2,_⟩:=hes' x hx;have hno:=hin _ m1
     rcases hl0:l with _|⟨p0,l0⟩
     ·subst hl0;exact absurd hl (mB _ _ _ _)
     ·have hk0:=hk1 p0 (by rw [hl0];exact aT ..);simp only [dR,hno] at hk1 hk0
      cases hw:dS fr ops x.1.2.2 with
      | none=>simp only [hw] at hk0
      | some b =>
       cases b with
       | false =>
        simp only [hw] at hk1 hk0 ⊢
        cases hput:fr.put x.1.2.2.dst un with
        | none=>simp only [hput] at hk0
        | some fr' =>
         simp only [hput] at hk1 ⊢;exact dR.run hl (fun p hp=>hin p (m2 p hp)) hrd hk1
       | true =>
        simp only [hw,cond_true] at hk1 hk0 ⊢;obtain ⟨N,outs,ho,_⟩:=hk0.step
        have all:∀o∈l,∀y∈outs,Chk E ops fr y.2 (rds.filter fun k => !(Nat.testBit x.1.2.1 k)) (rd.map fun x=>(x.1,x.2.2))∧(match fr.put x.1.2.2.dst y.1 with
          | some fr'=>dR E ops o (rd.map fun x=>(x.1,x.2.2)) fr' y.2 Q
          | none=>False):=by
         intro o hoo y hy;obtain ⟨N2,outs2,ho2,hq2⟩:=(hk1 o hoo).step;have e1:=wS (Nat.le_max_left N N2) ho;have e2:=wS (Nat.le_max_right N N2) ho2;rw [e1] at e2;injection e2 with e2;subst e2;exact hq2 y hy
        refine vm (G:=fun N=>opV E (ev E N) fr h x.1.2.2) (F:=fun N (y:V×H)=>bif g0 E (ev E N) x.1.2.1 fr y.2 rd then (match fr.put x.1.2.2.dst y.1 with
         | some fr'=>kw E (ev E N) ops f x.2 (ee done x.1.1) rd fr' y.2
         | none=>none) else none) (fun n m r hle=>wS hle) ?_ ⟨N,outs,ho,fun y hy=>?_⟩
        ·intro n m y r hle hy
         cases hs:g0 E (ev E n) x.1.2.1 fr y.2 rd with
         | false=>rw [hs] at hy;cases hy
         | true =>
          have hs':g0 E (ev E m) x.1.2.1 fr y.2 rd=true:=nP (g':=E.globs) (fun _ _ h=>h) (xI E hle) hs;rw [hs] at hy;rw [hs'];simp only [cond_true] at hy ⊢
          split at hy
          ·exact Ab hle hy
          ·cases hy
        ·have hst:∀N,g0 E (ev E N) x.1.2.1 fr y.2 rd=true:=fun N=>yN hrd (all p0 (by rw [hl0];exact aT ..) y hy).1;simp only [hst,cond_true]
         cases hput:fr.put x.1.2.2.dst y.1 with
         | none =>
          have:=(all p0 (by rw [hl0];exact aT ..) y hy).2;rw [hput] at this;exact this.elim
         | some fr' =>
          simp only
          exact dR.run hl (fun p hp=>hin p (m2 p hp)) hrd (fun o hoo=>by
           have:=(all o hoo y hy).2
           rw [hput] at this;exact this)
    have each:∀(es:List (Pn×List Pn)) (plans:List (List Stp)),(∀x∈es,x∈jY E done (p::ps)) →
      es.foldr (fun x acc=>match kF E f x.2 (ee done x.1.1) rds,acc with
       | some l,some r=>some ((l.map fun o=>Stp.mk x.1.1 true false (rds.filter fun k => !(Nat.testBit x.1.2.1 k))::o)++r)
       | _,_=>none) (some [])=some plans→(∀p∈plans,dR E ops p (rd.map fun x=>(x.1,x.2.2)) fr h Q) →
      ∀x∈es,∃l,kF E f x.2 (ee done x.1.1) rds=some l∧∀o∈l,dR E ops (⟨x.1.1,true,false,rds.filter fun k => !(Nat.testBit x.1.2.1 k)⟩::o) (rd.map fun x=>(x.1,x.2.2)) fr h Q:=by
     intro es
     induction es with
     | nil=>intro plans _ _ _ x hx;cases hx
     | cons e es ih =>
      intro plans hm hf hk x hx;simp only [List.foldr_cons] at hf
      split at hf
      ·rename_i l r hl hr;injection hf with hf;subst hf
       rcases aW.1 hx with rfl|hx
       ·exact ⟨l,hl,fun o ho=>hk _ (List.mem_append_left _ (bP.2 ⟨o,ho,rfl⟩))⟩
       ·exact ih r (fun y hy=>hm y (aM _ hy)) hr (fun q hq=>hk q (List.mem_append_right _ hq)) x hx
      ·cases hf
    have hall:=each _ plans (fun x hx=>hx) hp hk
    have hF:∀n m (x:Pn×List Pn) r,n≤m→(match dS fr ops x.1.2.2 with
      | none=>none
      | some false=>(match fr.put x.1.2.2.dst un with
       | some fr'=>kw E (ev E n) ops f x.2 (ee done x.1.1) rd fr' h
       | none=>none)
      | some true=>ji (opV E (ev E n) fr h x.1.2.2) fun y=>bif g0 E (ev E n) x.1.2.1 fr y.2 rd then (match fr.put x.1.2.2.dst y.1 with
       | some fr'=>kw E (ev E n) ops f x.2 (ee done x.1.1) rd fr' y.2
       | none=>none) else none)=some r→(match dS fr ops x.1.2.2 with
      | none=>none
      | some false=>(match fr.put x.1.2.2.dst un with
       | some fr'=>kw E (ev E m) ops f x.2 (ee done x.1.1) rd fr' h
       | none=>none)
      | some true=>ji (opV E (ev E m) fr h x.1.2.2) fun y=>bif g0 E (ev E m) x.1.2.1 fr y.2 rd then (match fr.put x.1.2.2.dst y.1 with
       | some fr'=>kw E (ev E m) ops f x.2 (ee done x.1.1) rd fr' y.2
       | none=>none) else none)=some r:=by
     intro n m x r hle hx
     split at hx
     ·cases hx
     ·split at hx
      ·exact Ab hle hx
      ·cases hx
     ·refine ge (fun l hl=>wS hle hl) (fun y r hy=>?_) hx
      cases hs:g0 E (ev E n) x.1.2.1 fr y.2 rd with
      | false=>rw [hs] at hy;cases hy
      | true =>
       have hs':g0 E (ev E m) x.1.2.1 fr y.2 rd=true:=nP (g':=E.globs) (fun _ _ h=>h) (xI E hle) hs;rw [hs] at hy;rw [hs'];simp only [cond_true] at hy ⊢
       split at hy
       ·exact Ab hle hy
       ·cases hy
    have hG:=Dt hF (Q:=fun y=>Q y.1 y.2) (l:=jY E done (p::ps)) 0 (fun x hx=>by
     obtain ⟨l,hl,hkl⟩:=hall x hx
     exact one x hx l hl hkl)
    obtain ⟨N,r,_,n1,n2⟩:=hG;exact ⟨N,r,n1,n2⟩
theorem WC.draw {id:Nat} {ops:Array Oper} {fr:Fr} {h:H} {Q:Ex→Fr→H→Prop} {plans:List (List Stp)} (hp:C9 E ops.toList=some plans) (k:∀p∈plans,dR E ops.toList p [] fr h fun fr h=>Q .normal fr h):WC E (.region id ops true) fr h Q:=by
 unfold C9 at hp;simp only at hp;obtain ⟨hd,hp⟩:=cI hp
 obtain ⟨N,l,h1,h2⟩:=dR.run (rd:=[]) hp (fun p hp=>by
  obtain ⟨_,q⟩:=BE hp
  simpa using q) (fun x hx=>by cases hx) k
 refine qc.wc ?_;unfold qc eZ;simp only [cond_true]
 refine vm (G:=fun N=>drawn E (ev E N) ops.toList fr h) (fun n m r hle hx=>xO (g':=E.globs) (fun _ _ h=>h) (xI E hle) hx) ?_ ⟨N,l,?_,fun x hx=>?_⟩
 ·exact fun n m x r hle h=>h
 ·unfold drawn;simp only [hd,cond_true];exact h1
 ·exact ⟨0,[(.normal,x.1,x.2)],rfl,fun y hy=>by rw [aN.1 hy];exact h2 x hx⟩
theorem isV_rv {h:H} {u v:V}:IsV (rv h (some u)) v=(u=v):=rfl
theorem isV_r1 {x:V×H} {v:V}:IsV (r1 (some x)) v=(x.1=v):=rfl
theorem has_nil {k:Nat}:List.contains ([]:List Nat) k=false:=rfl
theorem Jd {a k:Nat} {l:List Nat}:List.contains (a::l) k=(k==a||l.contains k):=List.contains_cons
section
variable {ih : Rec} {d : Option Nat} {t : Nat} {p : String} {a : Array Edge} {g : Option (Nat × Bool)} {fr : Fr} {h : H}
theorem o_load {ty:Nat} {x:Operand}:opV E ih fr h ⟨d,.load ty x,t,p,a,g⟩=rv h ((opd fr x).bind fun x=>cx E h ty x):=by
 simp only [opV]
 cases opd fr x with
 | none=>rfl
 | some c=>cases c<;>rfl
theorem o_bin {op:BinOp} {ty ty':Nat} {x y:Operand}:opV E ih fr h ⟨d,.binOp op ty x y ty',t,p,a,g⟩=rv h ((opd fr x).bind fun u=>(opd fr y).bind fun v=>fJ E h (iH x||iH y) op ty u v):=by
 simp only [opV]
 cases opd fr x with
 | none=>rfl
 | some c=>cases opd fr y<;>rfl
theorem o_conv {s e:Nat} {x:Operand}:opV E ih fr h ⟨d,.convert s e x,t,p,a,g⟩=r1 ((opd fr x).bind fun u=>j3 E h s e u):=by
 simp only [opV]
 cases opd fr x<;>rfl
theorem o_len {ty:Nat} {x:Operand}:opV E ih fr h ⟨d,.call ⟨.builtin .len,#[x],#[ty]⟩,t,p,a,g⟩=rv h ((opd fr x).bind fun u=>lenB E h ty u):=by
 simp only [opV,jf,iP]
 cases opd fr x<;>rfl
end
theorem b_tt:(true==true)=true:=rfl
theorem b_tf:(true==false)=false:=rfl
theorem b_ft:(false==true)=false:=rfl
theorem b_ff:(false==false)=true:=rfl
def JO (E:Env) (all r:List Oper) (fr:Fr) (d:Option Nat) (Q:Fr→H→Prop) (v:V) (h:H):Prop:=match fr.put d v with
 | some fr=>pw E all r fr h Q
 | none=>False
theorem JL {all:List Oper} {fr:Fr} {h:H} {Q:Fr→H→Prop}:pw E all [] fr h Q=Q fr h:=rfl
theorem Ht {all r:List Oper} {o:Oper} {fr:Fr} {h:H} {Q:Fr→H→Prop}:pw E all (o::r) fr h Q=(match dS fr all o with
 | none=>False
 | some false=>JO E all r fr o.dst Q un h
 | some true=>WOp E fr h o (JO E all r fr o.dst Q)):=rfl
theorem JN {all r:List Oper} {fr:Fr} {d:Option Nat} {Q:Fr→H→Prop} {v:V} {h:H}:JO E all r fr d Q v h=(match fr.put d v with
 | some fr=>pw E all r fr h Q
 | none=>False):=rfl
def PNe (E:Env) (ops:List Oper) (r:List Stp) (chk:List Nat) (rd:List (Nat×V)) (fr:Fr) (d:Option Nat) (Q:Fr→H→Prop) (v:V) (h:H):Prop :=
 Chk E ops fr h chk rd∧(match fr.put d v with
  | some fr'=>dR E ops r rd fr' h Q
  | none=>False)
def PNr (E:Env) (ops:List Oper) (r:List Stp) (b:Bool) (k:Nat) (rd:List (Nat×V)) (fr:Fr) (d:Option Nat) (h:H) (Q:Fr→H→Prop) (v:V) (_:H):Prop :=
 match fr.put d v with
 | some fr'=>dR E ops r (bif b then (k,v)::rd else rd) fr' h Q
 | none=>False
theorem Hu {ops:List Oper} {rd:List (Nat×V)} {fr:Fr} {h:H} {Q:Fr→H→Prop}:dR E ops [] rd fr h Q=Q fr h:=rfl
def WPOp (E:Env) (ops:List Oper) (s:Stp) (r:List Stp) (rd:List (Nat×V)) (fr:Fr) (h:H) (Q:Fr→H→Prop) (o:Option Oper):Prop:=match o with
 | none=>False
 | some o=>match dS fr ops o with
  | none=>False
  | some false=>(match fr.put o.dst un with
   | some fr'=>dR E ops r rd fr' h Q
   | none=>False)
  | some true=>bif s.eff then WOp E fr h o (PNe E ops r s.chk rd fr o.dst Q) else WOp E fr h o (PNr E ops r s.rd s.idx rd fr o.dst h Q)
theorem DS {ops:List Oper} {s:Stp} {r:List Stp} {rd:List (Nat×V)} {fr:Fr} {h:H} {Q:Fr→H→Prop}:dR E ops (s::r) rd fr h Q=WPOp E ops s r rd fr h Q (nth ops s.idx):=by
 simp only [dR,WPOp]
 cases nth ops s.idx<;>rfl
theorem Hv {ops:List Oper} {s:Stp} {r:List Stp} {rd:List (Nat×V)} {fr:Fr} {h:H} {Q:Fr→H→Prop} {o:Oper}:WPOp E ops s r rd fr h Q (some o)=(match dS fr ops o with
  | none=>False
  | some false=>(match fr.put o.dst un with
   | some fr'=>dR E ops r rd fr' h Q
   | none=>False)
  | some true=>bif s.eff then WOp E fr h o (PNe E ops r s.chk rd fr o.dst Q) else WOp E fr h o (PNr E ops r s.rd s.idx rd fr o.dst h Q)):=rfl
theorem PNe_eq {ops:List Oper} {r:List Stp} {chk:List Nat} {rd:List (Nat×V)} {fr:Fr} {d:Option Nat} {Q:Fr→H→Prop} {v:V} {h:H}:PNe E ops r chk rd fr d Q v h=(Chk E ops fr h chk rd∧(match fr.put d v with
  | some fr'=>dR E ops r rd fr' h Q
  | none=>False)):=rfl
theorem PNr_eq {ops:List Oper} {r:List Stp} {b:Bool} {k:Nat} {rd:List (Nat×V)} {fr:Fr} {d:Option Nat} {Q:Fr→H→Prop} {v:V} {h h':H}:PNr E ops r b k rd fr d h Q v h'=(match fr.put d v with
 | some fr'=>dR E ops r (bif b then (k,v)::rd else rd) fr' h Q
 | none=>False):=rfl
end
section
variable {E : Env} {h : H}
theorem Has.sl {b n sz:Nat} {cs:List V} (a:Has h b cs) (hn:cs.length=n * sz):Sl E h sz (.slice b 0 n (.lit n)) n cs:=by
 obtain ⟨t,d,e,k,h1,h2⟩:=a;refine ⟨rfl,?_,(fun _ e=>by cases e),(fun b o m c e=>by injection e with _ _ e1 e2;injection e2 with e2;omega),(fun _ _ _ e=>by cases e)⟩;rw [hn] at h1 h2;simp only [cX,h1,cQ (aI n),cond_true,h2]
 cases h0:Nat.beq (n * sz) 0 with
 | true =>
  have h0:=aS h0;rw [h0] at h2;simp [dT] at h2;subst h2;rfl
 | false=>rfl
theorem nT {t e sz n:Nat} {ps:List (Nat×V)} {cs:List V} {i ei:TI} {Q:V→H→Prop} (ht:E.tys.get t=some i) (hd:i.desc=.slice e) (he:E.tys.get e=some ei) (hsz:ei.size=sz) (hpos:0<sz) (hn:n * sz≤16777216)
  (hc:cW (fun k=>some (k * ei.size,ei.size)) (j8 ei.zero n) ps=some cs) (hl:cs.length=n * sz)
  (k:∀h',h'.t.get h.bX=some (.cells (T.putL .lf 0 cs) cs.length [.nilp] e 0)→h'.bX=h.bX+1→Fix (·<h.bX) h h'→Q (.slice h.bX 0 n (.lit n)) h'):ej (r1 (iC E h t n ps)) Q:=by
 have h1:(Nat.ble (n * ei.size) 16777216&&Nat.blt 0 ei.size)=true:=by rw [hsz,cQ hn,gF hpos];rfl
 simp only [iC,ht,hd,he,h1,cond_true,hc,jz,Ea];exact k _ (by rw [jH,if_pos rfl]) rfl (kP fun _ h=>h)
theorem H3 {t e b o n m el:Nat} {c:Cp} {tt:T V} {d:List V} {i ei:TI} {Q:V→H→Prop} (hb:h.t.get b=some (.cells tt m d el 0)) (ht:E.tys.get t=some i) (hd:i.desc=.slice e) (he:E.tys.get e=some ei) (hed:ei.desc=.int .u8)
  (k:∀h',h'.t.get b=some (.cells tt m d el 3)→h'.bX=h.bX→Fix (·≠b) h h'→Q (.slice b o n c) h'):ej (r1 (j3 E h t t (.slice b o n c))) Q:=by
 have h1:(Nat.beq 0 0||Nat.beq 0 3)=true:=rfl;have h2:Nat.beq t t=true:=by simp
 simp only [j3,ht,hd,h2,cond_true,he,hed,hb,h1,jz]
 refine k _ ?_ rfl ⟨aI _,fun c hc=>?_⟩
 ·simp only [H.put,T.get_set,if_true]
 ·simp only [H.put,T.get_set];rw [if_neg hc]
end
end Go.Ev
