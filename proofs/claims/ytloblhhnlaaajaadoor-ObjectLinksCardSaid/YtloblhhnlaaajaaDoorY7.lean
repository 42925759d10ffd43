/- Code: all but ranges over functions. -/
import Derived.Test.YtloblhhnlaaajaaDoorY6
set_option linter.unusedVariables false
set_option linter.unusedSimpArgs false
set_option linter.defProp false
namespace Go.Ev
open Go
section
variable {P : Program} {b : Fb} {k : List Item} {cs : List Frame}
theorem Arr.of_steps {m m1:Machine} {e:Ex} {a:Act} {w:World} (h:Steps P m m1) (h':Arr P m1 b k cs e a w):Arr P m b k cs e a w:=by
 cases e with
 | normal=>exact h.trans h'
 | exit id=>obtain ⟨k2,h1,h2⟩:=h';exact ⟨k2,h1,h.trans h2⟩
 | ret=>obtain ⟨k2,h2⟩:=h';exact ⟨k2,h.trans h2⟩
theorem Steps.same_step {m0 m1 m2:Machine} (h:Steps P m1 m2) (hne:m1≠m2) (hs:step P m0=step P m1):Steps P m0 m2:=by
 obtain ⟨n,hn⟩:=h
 cases n with
 | zero=>simp [runN] at hn;exact absurd hn hne
 | succ n=>exact ⟨n+1,by simp only [runN] at hn ⊢;rw [hs];exact hn⟩
theorem ur {b:Fb} {a a':Act} {k k':List Item} {w w':World} (h:lone (FrR b a k) cs w=lone (FrR b a' k') cs w'):k=k':=by
 unfold lone at h;injection h with _ h _;have h2:(#[({frame:=FrR b a k,callers:=cs,status:=.running,dying:=none}:Goroutine)]:Array Goroutine).toList=#[({frame:=FrR b a' k',callers:=cs,status:=.running,dying:=none}:Goroutine)].toList:=by rw [h]
 simp only [List.cons.injEq,and_true] at h2;injection h2 with h3;unfold FrR at h3;injection h3
theorem Arr.loop {body:Code} {a1 a:Act} {w1 w:World} {e:Ex} (h:Arr P (lone (FrR b a1 (.code (.loop body)::k)) cs w1) b k cs e a w):Arr P (lone (FrR b a1 (.inLoop body::k)) cs w1) b k cs e a w:=by
 have hs:step P (lone (FrR b a1 (.inLoop body::k)) cs w1)=step P (lone (FrR b a1 (.code (.loop body)::k)) cs w1):=by rw [FV,vA]
 cases e with
 | normal =>
  refine Steps.same_step h (fun q=>?_) hs;have:=congrArg List.length (ur q);simp at this
 | exit id =>
  obtain ⟨k2,h1,h2⟩:=h;refine ⟨k2,h1,Steps.same_step h2 (fun q=>?_) hs⟩;have:=ur q;injection this with h3
  cases h3
 | ret =>
  obtain ⟨k2,h2⟩:=h;refine ⟨k2,Steps.same_step h2 (fun q=>?_) hs⟩;have:=ur q;injection this with h3
  cases h3
end
section
variable {P : Program} {E : Env} {ρ : Rho} {ih : Rec}
def JT (P:Program) (E:Env) (ρ:Rho) (c:Code) (fr:Fr) (outs:List (Ex×Fr×H)) (μ:Mu) (a:Act) (w:World) (b:Fb):Prop :=
 ∀(k:List Item) (cs:List Frame),∃e fr' h',(e,fr',h')∈outs∧∃μ' a' w',Grows μ w μ' w'∧HR E ρ μ' h' w'∧FR ρ μ' fr' a'∧fr'.fn=fr.fn∧fr'.rnd=fr.rnd∧fr'.nt=fr.nt ∧
   Arr P (lone (FrR b a (.code c::k)) cs w) b k cs e a' w'
theorem Ctx.le {μ μ':Mu} {fr fr':Fr} {b:Fb} (h:Ctx μ fr b) (hl:Le μ μ') (h1:fr'.fn=fr.fn) (h2:fr'.rnd=fr.rnd):Ctx μ' fr' b:=by
 refine ⟨h.1.trans h1.symm,?_⟩;have:=h.2;rw [h2]
 split at this
 ·exact this
 ·obtain ⟨y,y1,y2⟩:=this;exact ⟨y,hl _ _ y1,y2⟩
theorem DF (hE:EnvOk P E) (hp:Plain ρ) (ok:RecOk P E ρ ih) {c:Code} {fr:Fr} {h:H} {outs:List (Ex×Fr×H)} (hrun:eZ E ih c fr h=some outs) (hrf:∀f ps asg body,c≠.rangeFunc f ps asg body)
  {μ:Mu} {a:Act} {w:World} (b:Fb) (hh:HR E ρ μ h w) (hf:FR ρ μ fr a) (hctx:Ctx μ fr b):JT P E ρ c fr outs μ a w b:=by
 intro k cs;unfold eZ at hrun
 split at hrun
 ·obtain rfl:=cT hrun;exact ⟨.normal,fr,h,aN.2 rfl,μ,a,w,Grows.refl _ _,hh,hf,rfl,rfl,rfl,(.one st_skip)⟩
 ·obtain rfl:=cT hrun;exact ⟨.normal,fr,h,aN.2 rfl,μ,a,w,Grows.refl _ _,hh,hf,rfl,rfl,rfl,(.one HY)⟩
 ·rename_i id ops draw;obtain ⟨l,hl,hcont⟩:=gA hrun
  cases draw with
  | true =>
   simp only [cond_true] at hl;obtain ⟨fr',h',hm,μ',a',w',g1,g2,g3,g4,g5,g6,g7⟩:=Co hE hp ok hl hh hf id b k cs;obtain ⟨o1,hc,hsub⟩:=hcont _ hm;obtain rfl:=cT hc;exact ⟨.normal,fr',h',hsub _ (aN.2 rfl),μ',a',w',g1,g2,g3,g4,g5,g6,g7⟩
  | false =>
   simp only [cond_false] at hl;obtain ⟨fr',h',hm,μ',a',w',g1,g2,g3,g4,g5,g6,g7⟩:=sM hE hp ok ops.toList 0 (by simp) fr h l hl μ a w b hh hf k cs;obtain ⟨o1,hc,hsub⟩:=hcont _ hm;obtain rfl:=cT hc;refine ⟨.normal,fr',h',hsub _ (aN.2 rfl),μ',a',w',g1,g2,g3,g4,g5,g6,(.head FU ?_)⟩;rw [List.range_eq_range'];simpa using g7
 ·rename_i x y;obtain ⟨l,hl,hcont⟩:=gA hrun;obtain ⟨e,fr1,h1,hm,μ1,a1,w1,g1,g2,g3,g4,g5,g6,g7⟩:=ok.code _ _ _ _ hl μ a w b hh hf hctx (.code y::k) cs;obtain ⟨o1,hc,hsub⟩:=hcont _ hm
  cases e with
  | normal =>
   simp only at hc;obtain ⟨e2,fr2,h2,hm2,μ2,a2,w2,q1,q2,q3,q4,q5,q6,q7⟩:=ok.code _ _ _ _ hc μ1 a1 w1 b g2 g3 (hctx.le g1.le g4 g5) k cs;exact ⟨e2,fr2,h2,hsub _ hm2,μ2,a2,w2,g1.trans q1,q2,q3,q4.trans g4,q5.trans g5,q6.trans g6,Arr.of_steps (.head CM g7) q7⟩
  | exit id =>
   simp only at hc;obtain rfl:=cT hc;refine ⟨.exit id,fr1,h1,hsub _ (aN.2 rfl),μ1,a1,w1,g1,g2,g3,g4,g5,g6,?_⟩;obtain ⟨k2,e1,e2⟩:=g7;exact ⟨k2,e1,.head CM e2⟩
  | ret =>
   simp only at hc;obtain rfl:=cT hc;refine ⟨.ret,fr1,h1,hsub _ (aN.2 rfl),μ1,a1,w1,g1,g2,g3,g4,g5,g6,?_⟩;obtain ⟨k2,e2⟩:=g7;exact ⟨k2,.head CM e2⟩
 ·rename_i cc x y
  split at hrun
  ·rename_i hc;obtain ⟨X,x1,x2⟩:=cJ hf hc;simp only [conc] at x1;injection x1 with x1;subst x1;obtain ⟨e,fr1,h1,hm,μ1,a1,w1,g1,g2,g3,g4,g5,g6,g7⟩:=ok.code _ _ _ _ hrun μ a w b hh hf hctx k cs;exact ⟨e,fr1,h1,hm,μ1,a1,w1,g1,g2,g3,g4,g5,g6,Arr.of_steps (.one (D3 x2)) g7⟩
  ·rename_i hc;obtain ⟨X,x1,x2⟩:=cJ hf hc;simp only [conc] at x1;injection x1 with x1;subst x1;obtain ⟨e,fr1,h1,hm,μ1,a1,w1,g1,g2,g3,g4,g5,g6,g7⟩:=ok.code _ _ _ _ hrun μ a w b hh hf hctx k cs;exact ⟨e,fr1,h1,hm,μ1,a1,w1,g1,g2,g3,g4,g5,g6,Arr.of_steps (.one (D3 x2)) g7⟩
  ·cases hrun
 ·rename_i id body;obtain ⟨l,hl,hcont⟩:=gA hrun;obtain ⟨e,fr1,h1,hm,μ1,a1,w1,g1,g2,g3,g4,g5,g6,g7⟩:=ok.code _ _ _ _ hl μ a w b hh hf hctx (.inBlock id::k) cs;obtain ⟨o1,hc,hsub⟩:=hcont _ hm
  cases e with
  | normal =>
   simp only at hc;obtain rfl:=cT hc;exact ⟨.normal,fr1,h1,hsub _ (aN.2 rfl),μ1,a1,w1,g1,g2,g3,g4,g5,g6,(.head tv (Steps.trans g7 (.one CP)))⟩
  | exit id' =>
   simp only at hc
   cases hid:Nat.beq id id' with
   | true =>
    have:=aS hid;subst this;simp only [hid,cond_true] at hc;obtain rfl:=cT hc;refine ⟨.normal,fr1,h1,hsub _ (aN.2 rfl),μ1,a1,w1,g1,g2,g3,g4,g5,g6,?_⟩;obtain ⟨k2,e1,e2⟩:=g7;refine .head tv (e2.trans (.one (st_exit ?_)));rw [e1];simp [exitTo]
   | false =>
    simp only [hid,cond_false] at hc;obtain rfl:=cT hc;refine ⟨.exit id',fr1,h1,hsub _ (aN.2 rfl),μ1,a1,w1,g1,g2,g3,g4,g5,g6,?_⟩;obtain ⟨k2,e1,e2⟩:=g7;refine ⟨k2,?_,.head tv e2⟩;have hne:(id==id')=false:=by simp;rintro rfl;simp at hid
    rw [e1];simp [exitTo,hne]
  | ret =>
   simp only at hc;obtain rfl:=cT hc;refine ⟨.ret,fr1,h1,hsub _ (aN.2 rfl),μ1,a1,w1,g1,g2,g3,g4,g5,g6,?_⟩;obtain ⟨k2,e2⟩:=g7;exact ⟨k2,.head tv e2⟩
 ·rename_i body;obtain ⟨l,hl,hcont⟩:=gA hrun;obtain ⟨e,fr1,h1,hm,μ1,a1,w1,g1,g2,g3,g4,g5,g6,g7⟩:=ok.code _ _ _ _ hl μ a w b hh hf hctx (.inLoop body::k) cs;obtain ⟨o1,hc,hsub⟩:=hcont _ hm
  cases e with
  | normal =>
   simp only at hc;obtain ⟨e2,fr2,h2,hm2,μ2,a2,w2,q1,q2,q3,q4,q5,q6,q7⟩:=ok.code _ _ _ _ hc μ1 a1 w1 b g2 g3 (hctx.le g1.le g4 g5) k cs;exact ⟨e2,fr2,h2,hsub _ hm2,μ2,a2,w2,g1.trans q1,q2,q3,q4.trans g4,q5.trans g5,q6.trans g6,Arr.of_steps (.head vA g7) q7.loop⟩
  | exit id =>
   simp only at hc;obtain rfl:=cT hc;refine ⟨.exit id,fr1,h1,hsub _ (aN.2 rfl),μ1,a1,w1,g1,g2,g3,g4,g5,g6,?_⟩;obtain ⟨k2,e1,e2⟩:=g7;exact ⟨k2,e1,.head vA e2⟩
  | ret =>
   simp only at hc;obtain rfl:=cT hc;refine ⟨.ret,fr1,h1,hsub _ (aN.2 rfl),μ1,a1,w1,g1,g2,g3,g4,g5,g6,?_⟩;obtain ⟨k2,e2⟩:=g7;exact ⟨k2,.head vA e2⟩
 ·rename_i id;obtain rfl:=cT hrun;exact ⟨.exit id,fr,h,aN.2 rfl,μ,a,w,Grows.refl _ _,hh,hf,rfl,rfl,rfl,⟨k,rfl,.refl _ _⟩⟩
 ·obtain rfl:=cT hrun;exact ⟨.ret,fr,h,aN.2 rfl,μ,a,w,Grows.refl _ _,hh,hf,rfl,rfl,rfl,⟨k,.refl _ _⟩⟩
 ·rename_i body;obtain ⟨e,fr1,h1,hm,μ1,a1,w1,g1,g2,g3,g4,g5,g6,g7⟩:=ok.code _ _ _ _ hrun μ a w b hh hf hctx (.inScope body::k) cs
  cases e with
  | normal=>exact ⟨.normal,fr1,h1,hm,μ1,a1,w1,g1,g2,g3,g4,g5,g6,(.head we (Steps.trans g7 (.one CN)))⟩
  | exit id =>
   refine ⟨.exit id,fr1,h1,hm,μ1,a1,w1,g1,g2,g3,g4,g5,g6,?_⟩;obtain ⟨k2,e1,e2⟩:=g7;exact ⟨k2,e1,.head we e2⟩
  | ret =>
   refine ⟨.ret,fr1,h1,hm,μ1,a1,w1,g1,g2,g3,g4,g5,g6,?_⟩;obtain ⟨k2,e2⟩:=g7;exact ⟨k2,.head we e2⟩
 ·exact absurd rfl (hrf _ _ _ _)
 ·cases hrun
end
section
variable {P : Program} {cs : List Frame} {w : World}
theorem Ff {fr:Frame} {b:Fb} {a:Act} {l:Nat} {k:List Item} {s:Sem Next} {w1 w':World} {X:Value}
  (hg:(stepG P true {frame:=fr,callers:=cs,status:=.running,dying:=none} w).bare=(stepG.apply P true (FrR b a (.inRangeFunc l::k)) cs none s w1).bare) (h:DT P (FrR b a (.inRangeFunc l::k)) cs s w1 X w') :
  Steps P (lone fr cs w) (lone (FrR b a (.endRangeFunc l::k)) cs w'):=by
 have hfin:(FrR b a (.inRangeFunc l::k)).finish X=FrR b a (.endRangeFunc l::k):=rfl
 rcases h with hr|⟨hr,rfl⟩|⟨f,args,w2,hr,hl⟩|⟨l',f,tmps,asg,body,w2,hr,hl⟩
 ·refine .one (step_lone_go ?_);rw [hg,←hfin];simp [stepG.apply,hr]
 ·refine .one (step_lone_go ?_);rw [hg,←hfin];simp [stepG.apply,hr]
 ·have henter:step P (lone fr cs w)=.next (lone (Frame.enter P f args .normal) (FrR b a (.inRangeFunc l::k)::cs) w2) :=
   step_lone_go (by rw [hg];simp [stepG.apply,hr,FrR])
  rw [←hfin];exact .head henter hl
 ·have henter:step P (lone fr cs w)=.next (lone (Frame.round l' f tmps asg body .normal) (FrR b a (.inRangeFunc l::k)::cs) w2) :=
   step_lone_go (by rw [hg];simp [stepG.apply,hr,FrR])
  rw [←hfin];exact .head henter hl
end
section
variable {P : Program} {E : Env} {ρ : Rho} {ih : Rec} {μ : Mu}
theorem pf {h:H} {w:World} (hh:HR E ρ μ h w) {l:Nat} {st:LoopState} {pend:Option Code} {fn:Nat} {ts:T V} {nt:Nat} {ps:List Nat} {asg body:Code} {d:Nat} (hb:h.t.get l=some (.loop st pend fn ts nt ps asg body d)) {y:Nat×Nat} (hy:μ l=some y) :
  ∃tmps z,w.heap[y.1]?=some (.loop {state:=st,pending:=pend,fn:=fn,tmps:=tmps,params:=ps.toArray,assign:=asg,body:=body,defers:=z})∧tmps.size=nt∧(∀t v,ts.get t=some v→∃X,conc ρ μ v=some X∧tmps[t]?=some X)∧∃q,μ d=some q∧q.1=z:=by
 obtain ⟨o,o1,o2⟩:=uH hh hb hy
 cases o2 with
 | loop ht hc hd=>exact ⟨_,_,o1,ht,hc,_,hd,rfl⟩
theorem lh {w:World} {l:Nat} {r:Loop} (h:w.heap[l]?=some (.loop r)):(Instr.getLoop l).run P w=.ok r w:=by simp [Instr.getLoop,getObj,Sem.run,h]
theorem qp {w:World} {l:Nat} {r:Loop} (o:Obj) (h:w.heap[l]?=some (.loop r)):(setObj l o).run P w=.ok () (World.at_ w l o):=by simp [setObj,Sem.run,h,World.at_]
theorem qC {h:H} {w:World} (hh:HR E ρ μ h w) {l:Nat} {st:LoopState} {pend:Option Code} {fn:Nat} {ts:T V} {nt:Nat} {ps:List Nat} {asg body:Code} {d:Nat} (hb:h.t.get l=some (.loop st pend fn ts nt ps asg body d)) {y:Nat×Nat} (hy:μ l=some y)
  (st':LoopState) (pend':Option Code) {tmps:Array Value} {z:Nat} (ho:w.heap[y.1]?=some (.loop {state:=st,pending:=pend,fn:=fn,tmps:=tmps,params:=ps.toArray,assign:=asg,body:=body,defers:=z})) :
  Grows μ w μ (World.at_ w y.1 (.loop {state:=st',pending:=pend',fn:=fn,tmps:=tmps,params:=ps.toArray,assign:=asg,body:=body,defers:=z})) ∧
  HR E ρ μ (h.put l (.loop st' pend' fn ts nt ps asg body d)) (World.at_ w y.1 (.loop {state:=st',pending:=pend',fn:=fn,tmps:=tmps,params:=ps.toArray,assign:=asg,body:=body,defers:=z})):=by
 obtain ⟨tmps',z',o1,o2,o3,q,q1,q2⟩:=pf hh hb hy;rw [ho] at o1;injection o1 with o1;injection o1 with o1;injection o1 with _ _ _ e1 _ _ _ e2;subst e1 e2;refine ⟨Grows.change hy io (fun g hg=>gj hg) rfl rfl rfl,HR.change hh hb hy ?_ io (fun g hg=>gj hg) (mc (gf ho))⟩;rw [←q2];exact .loop o2 o3 q1
theorem rT {args:List V}:∀{ps:List Nat} {ts ts':T V} {nt:Nat} {A:List Value} {tmps:Array Value} {args:List V},tE ts nt ps args=some ts'→cE ρ μ args=some A→tmps.size=nt→(∀t v,ts.get t=some v→∃X,conc ρ μ v=some X∧tmps[t]?=some X) →
  args.length=ps.length∧((ps.zip A).foldl (fun tmps (t,a)=>tmps.setIfInBounds t a) tmps).size=nt∧∀t v,ts'.get t=some v→∃X,conc ρ μ v=some X∧((ps.zip A).foldl (fun tmps (t,a)=>tmps.setIfInBounds t a) tmps)[t]?=some X
 | [],ts,ts',nt,A,tmps,[],h,ha,hs,hc=>by
  simp only [tE] at h;injection h with h;subst h;exact ⟨rfl,by simpa using hs,by simpa using hc⟩
 | [],ts,ts',nt,A,tmps,v::vs,h,ha,hs,hc=>by cases h
 | p::ps,ts,ts',nt,A,tmps,[],h,ha,hs,hc=>by cases h
 | p::ps,ts,ts',nt,A,tmps,v::vs,h,ha,hs,hc=>by
  simp only [tE] at h;obtain ⟨hb,h⟩:=cI h;have hlt:p<nt:=by simpa using hb
  obtain ⟨X,l,rfl,hx,hl⟩:=dQ ha
  have:=rT (args:=args) (tmps:=tmps.setIfInBounds p X) h hl (by simpa using hs) (fun t u hu=>by
   rw [T.get_set] at hu
   by_cases e:t=p
   ·rw [if_pos e] at hu;injection hu with hu;subst hu e;exact ⟨X,hx,by simp [hs,hlt]⟩
   ·rw [if_neg e] at hu;obtain ⟨Y,y1,y2⟩:=hc t u hu
    exact ⟨Y,y1,by rw [Array.getElem?_setIfInBounds_ne (Ne.symm e)];exact y2⟩)
  refine ⟨by simp [this.1],?_,?_⟩
  ·simpa using this.2.1
  ·simpa using this.2.2
theorem qq {b:Fb} {y:Nat} (hb:b.roundOf=some y) (hbk:b.kind=.normal) {a:Act} {k:List Item} {jump:Option Code} (hk:(jump=none∧k=[])∨(∃id k2,jump=some (.exit id)∧k=.code (.exit id)::k2∧exitTo id k2=none)∨(∃k2,jump=some .ret∧k=.code .ret::k2))
  {w w':World} {v:Value} (hr:(Instr.endRound y jump).run P w=.ok v w') (c:Frame) (cs:List Frame):step P (lone (FrR b a k) (c::cs) w)=.next (lone (c.finish v) cs w'):=by
 refine step_lone_go ?_
 rcases hk with ⟨rfl,rfl⟩|⟨id,k2,rfl,rfl,hx⟩|⟨k2,rfl,rfl⟩
 ·simp [stepG,stepG.exec,FrR,hb,hr,doReturn,hbk]
 ·simp [stepG,stepG.exec,FrR,hb,hr,doReturn,hbk,hx]
 ·simp [stepG,stepG.exec,FrR,hb,hr,doReturn,hbk]
theorem yq {b:Fb} {y:Nat} (hb:b.roundOf=some y) {a:Act} {k:List Item} {cs:List Frame} {w w':World} (hr:(Instr.beginRound y).run P w=.ok () w') :
  step P (lone (FrR b a (.beginRound::k)) cs w)=.next (lone (FrR b a k) cs w') :=
 step_lone_go (by simp [stepG,stepG.exec,stepG.apply,FrR,hb,hr,Frame.finish])
theorem AJ (ok:RecOk P E ρ ih) {l:Nat} {args:List V} {h:H} {outs:List (V×H)} (hrun:mn ih l args h=some outs) {w:World} {A:List Value} {y:Nat×Nat} (hh:HR E ρ μ h w) (hy:μ l=some y) (ha:cE ρ μ args=some A) :
  Res P E ρ μ w (Instr.yield y.1 A.toArray) outs:=by
 intro c cs;unfold mn at hrun
 split at hrun
 ·rename_i fn ts nt ps asg body d hb;obtain ⟨tmps,z,o1,o2,o3,_⟩:=pf hh hb hy
  split at hrun
  ·cases hrun
  ·rename_i ts' hput;obtain ⟨p1,p2,p3⟩:=rT (args:=args) hput ha o2 o3;have hAl:=dc ha
   have hround:(Instr.yield y.1 A.toArray).run P w=.ok (.round y.1 fn ((ps.zip A).foldl (fun tmps (t,a)=>tmps.setIfInBounds t a) tmps) asg body) w:=by
    have hsz:A.toArray.size=ps.toArray.size:=by simp;omega
    simp only [Instr.yield,Sem.run_bind,lh (P:=P) o1,Result.andThen_ok,hsz,ne_eq,not_true_eq_false,if_false];simp
   have hfr0:FR ρ μ {ts:=ts',nt:=nt,mks:=[],fn:=fn,rnd:=some l} ⟨(ps.zip A).foldl (fun tmps (t,a)=>tmps.setIfInBounds t a) tmps,[]⟩:=⟨p3,p2,.nil⟩;obtain ⟨l1,hl1,hcont⟩:=gA hrun
   let b:Fb:=⟨fn,.normal,some y.1⟩
   have hctx:Ctx μ {ts:=ts',nt:=nt,mks:=[],fn:=fn,rnd:=some l} b:=⟨rfl,y,hy,rfl⟩;obtain ⟨e1,fr1,h1,hm1,μ1,a1,w1,g1,g2,g3,g4,g5,g6,g7⟩:=ok.code _ _ _ _ hl1 μ _ w b hh hfr0 hctx [.beginRound,.code body] (c::cs);obtain ⟨o1',hc1,hsub1⟩:=hcont _ hm1
   cases e1 with
   | exit id=>cases hc1
   | ret=>cases hc1
   | normal =>
    simp only at hc1
    split at hc1
    ·rename_i pend2 fn2 ts2 nt2 ps2 asg2 body2 d2 hb2;obtain ⟨tmps2,z2,l1,l2,l3,_⟩:=pf g2 hb2 (g1.le _ _ hy);obtain ⟨q1,q2⟩:=qC g2 hb2 (g1.le _ _ hy) .busy pend2 l1
     have hbegin:(Instr.beginRound y.1).run P w1=.ok () (World.at_ w1 y.1 (.loop {state:=.busy,pending:=pend2,fn:=fn2,tmps:=tmps2,params:=ps2.toArray,assign:=asg2,body:=body2,defers:=z2})):=by
      simp [Instr.beginRound,lh l1,qp _ l1]
     obtain ⟨l2',hl2,hcont2⟩:=gA hc1;obtain ⟨e2,fr2,h2,hm2,μ2,a2,w2,k1,k2,k3,k4,k5,k6,k7⟩:=ok.code _ _ _ _ hl2 μ1 a1 _ b q2 g3 (hctx.le g1.le g4 g5) [] (c::cs);obtain ⟨o2',hc2,hsub2⟩:=hcont2 _ hm2;simp only at hc2
     split at hc2
     ·rename_i hmks
      split at hc2
      ·rename_i st3 pend3 fn3 ts3 nt3 ps3 asg3 body3 d3 hb3;obtain rfl:=cT hc2;have hy2:=k1.le _ _ (g1.le _ _ hy);obtain ⟨tmps3,z3,m1,m2,m3,_⟩:=pf k2 hb3 hy2
       have key:∀(jump:Option Code),(jump=none∧e2=.normal)∨(∃id,jump=some (.exit id)∧e2=.exit id)∨(jump=some .ret∧e2=.ret) →
         (.bool jump.isNone,h2.put l (.loop (Cn jump) jump fn3 ts3 nt3 ps3 asg3 body3 d3))∈outs→∃v h',(v,h')∈outs∧∃μ' X w',Grows μ w μ' w'∧HR E ρ μ' h' w'∧conc ρ μ' v=some X∧DT P c cs (Instr.yield y.1 A.toArray) w X w':=by
        intro jump hj hmem;obtain ⟨r1,r2⟩:=qC k2 hb3 hy2 (Cn jump) jump m1
        have hend:(Instr.endRound y.1 jump).run P w2=.ok (.bool jump.isNone) (World.at_ w2 y.1 (.loop {state:=Cn jump,pending:=jump,fn:=fn3,tmps:=tmps3,params:=ps3.toArray,assign:=asg3,body:=body3,defers:=z3})):=by
         cases jump<;>simp [Instr.endRound,lh m1,qp _ m1,Cn]
        refine ⟨_,_,hmem,μ2,.bool jump.isNone,_,g1.trans (q1.trans (k1.trans r1)),r2,by simp only [conc],.inr (.inr (.inr ⟨_,_,_,_,_,_,hround,?_⟩))⟩;have hstart:(Frame.round y.1 fn ((ps.zip A).foldl (fun tmps (t,a)=>tmps.setIfInBounds t a) tmps) asg body .normal)=FrR b ⟨(ps.zip A).foldl (fun tmps (t,a)=>tmps.setIfInBounds t a) tmps,[]⟩ [.code asg,.beginRound,.code body]:=rfl;unfold AG;rw [hstart];have s1:=g7
        simp only [Arr] at s1;refine s1.trans (.head (yq rfl hbegin) ?_);have s2:=k7
        rcases hj with ⟨rfl,rfl⟩|⟨id,rfl,rfl⟩|⟨rfl,rfl⟩
        ·exact s2.trans (.one (qq (b:=b) rfl rfl (.inl ⟨rfl,rfl⟩) hend c cs))
        ·obtain ⟨k2',x1,x2⟩:=s2;exact x2.trans (.one (qq (b:=b) rfl rfl (.inr (.inl ⟨id,k2',rfl,rfl,by rw [x1];rfl⟩)) hend c cs))
        ·obtain ⟨k2',x2⟩:=s2;exact x2.trans (.one (qq (b:=b) rfl rfl (.inr (.inr ⟨k2',rfl,rfl⟩)) hend c cs))
       have hmem:=hsub1 _ (hsub2 _ (aN.2 rfl))
       cases e2 with
       | normal=>exact key none (.inl ⟨rfl,rfl⟩) hmem
       | exit id=>exact key (some (.exit id)) (.inr (.inl ⟨id,rfl,rfl⟩)) hmem
       | ret=>exact key (some .ret) (.inr (.inr ⟨rfl,rfl⟩)) hmem
      ·cases hc2
     ·cases hc2
    ·cases hc1
 ·cases hrun
end
section
variable {P : Program} {E : Env} {ρ : Rho} {ih : Rec} {μ : Mu}
theorem C7 {h:H} {w:World} (hh:HR E ρ μ h w) {l:Nat} {st:LoopState} {pend:Option Code} {fn:Nat} {ts:T V} {nt:Nat} {ps:List Nat} {asg body:Code} {d:Nat} (hb:h.t.get l=some (.loop st pend fn ts nt ps asg body d)) {y:Nat×Nat} (hy:μ l=some y) (hst:st≠.busy) :
  ∃w',Grows μ w μ w'∧HR E ρ μ (h.put l (.loop .exhausted pend fn ts nt ps asg body d)) w'∧∀(b:Fb) (a:Act) (k:List Item) (cs:List Frame),step P (lone (FrR b a (.endRangeFunc y.1::k)) cs w)=.next (lone (FrR b a ((pend.map Item.code).toList++k)) cs w'):=by
 obtain ⟨tmps,z,o1,o2,o3,_⟩:=pf hh hb hy;obtain ⟨g1,g2⟩:=qC hh hb hy .exhausted pend o1;refine ⟨_,g1,g2,fun b a k cs=>step_lone_go ?_⟩
 have hend:(Instr.endLoop y.1).run P w=.ok pend (World.at_ w y.1 (.loop {state:=.exhausted,pending:=pend,fn:=fn,tmps:=tmps,params:=ps.toArray,assign:=asg,body:=body,defers:=z})):=by
  have:(st==LoopState.busy)=false:=by cases st<;>first|rfl|exact absurd rfl hst
  simp only [Instr.endLoop,Sem.run_bind,lh o1,Result.andThen_ok,this,Bool.false_eq_true,if_false,qp _ o1,Sem.run_pure]
 simp [stepG,stepG.exec,FrR,hend]
theorem wI (ok:RecOk P E ρ ih) {h:H} {lb:Nat} {outs:List (Ex×Fr×H)} {fr:Fr} (hrun:kK ih lb fr h=some outs)
  {a:Act} {w:World} {b:Fb} (hh:HR E ρ μ h w) (hf:FR ρ μ fr a) (hctx:Ctx μ fr b) {y:Nat×Nat} (hy:μ lb=some y) (k:List Item) (cs:List Frame) :
  ∃e fr' h',(e,fr',h')∈outs∧∃μ' a' w',Grows μ w μ' w'∧HR E ρ μ' h' w'∧FR ρ μ' fr' a'∧fr'.fn=fr.fn∧fr'.rnd=fr.rnd∧fr'.nt=fr.nt ∧
   Arr P (lone (FrR b a (.endRangeFunc y.1::k)) cs w) b k cs e a' w':=by
 unfold kK at hrun
 split at hrun
 ·rename_i st pend fn ts nt ps asg body d hb;have hst:st≠.busy:=by rintro rfl;cases hrun
  have hrun2:zX ih pend fr (h.put lb (.loop .exhausted pend fn ts nt ps asg body d))=some outs:=by
   cases st<;>first|exact absurd rfl hst|exact hrun
  obtain ⟨w',g1,g2,g3⟩:=C7 (P:=P) hh hb hy hst
  cases pend with
  | none =>
   obtain rfl:=cT hrun2;exact ⟨.normal,fr,_,aN.2 rfl,μ,a,w',g1,g2,hf,rfl,rfl,rfl,(.one (g3 b a k cs))⟩
  | some j =>
   obtain ⟨e,fr',h',hm,μ',a',w2,q1,q2,q3,q4,q5,q6,q7⟩:=ok.code _ _ _ _ hrun2 μ a w' b g2 hf hctx k cs;exact ⟨e,fr',h',hm,μ',a',w2,g1.trans q1,q2,q3,q4,q5,q6,Arr.of_steps (.one (g3 b a k cs)) q7⟩
 ·cases hrun
theorem FR.deferred {fr:Fr} {a:Act} (hf:FR ρ μ fr a) {db r:Nat} {z:Nat} (h:μ db=some (r,z)):FR ρ μ {fr with mks:=.mark db::fr.mks} {a with defers:={target:=.collected r,args:=#[]}::a.defers} :=
 ⟨hf.tmps,hf.size,.mark h hf.defs⟩
theorem Bz (ok:RecOk P E ρ ih) {f:Operand} {params:Array Nat} {asg body:Code} {fr:Fr} {h:H} {outs:List (Ex×Fr×H)} (hrun:eZ E ih (.rangeFunc f params asg body) fr h=some outs)
  {a:Act} {w:World} (b:Fb) (hh:HR E ρ μ h w) (hf:FR ρ μ fr a) (hctx:Ctx μ fr b):JT P E ρ (.rangeFunc f params asg body) fr outs μ a w b:=by
 have hres:∀(k:List Item) (a1:Act) (fr1:Frame),fr1=FrR b a1 k→a1.tmps=a.tmps→∀(l:Nat),(do let d ←resolve fr1.eval {callee:=.value f,args:=#[.const (.func (.yield l) #[] #[])],argTypes:=#[]} 0;invoke d.target d.args:Sem Next) =
   (do let d ←Deferred.ofValue (a.eval f) #[.func (.yield l) #[] #[]];invoke d.target d.args):=by
  rintro k a1 _ rfl ht l
  have:(FrR b a1 k).eval=a.eval:=by
   funext x;cases x<;>simp [Frame.eval,FrR,Act.eval,ht]
  rw [this];simp [resolve,Act.eval]
 intro k cs;simp only [eZ] at hrun
 split at hrun
 ·rename_i hrnd;have hround:b.roundOf=none:=by have:=hctx.2;rw [hrnd] at this;exact this
  split at hrun
  ·rename_i fv hfv;obtain ⟨F,f1,f2⟩:=cJ hf hfv;obtain ⟨lx,hlx,hcont⟩:=gA hrun;have A1:=HR.alloc (B:=.defs false) (o:=.deferred (some [])) (cap:=0) (w':={w with heap:=w.heap.push (.deferred (some []))}) hh .defs rfl;have G1:=Grows.alloc (w':={w with heap:=w.heap.push (.deferred (some []))}) hh 0 rfl rfl rfl rfl;have hdb:(μ.put h.bX (w.heap.size,0)) h.bX=some (w.heap.size,0):=Mu.put_same _ _ _;generalize hμ1:μ.put h.bX (w.heap.size,0)=μ1 at A1 G1 hdb
   have hf1:=hf.le G1.le
   let L:Loop:={state:=.ready,pending:=none,fn:=fr.fn,tmps:=a.tmps,params:=params,assign:=asg,body:=body,defers:=w.heap.size}
   have hle2:=Mu.le_put (μ:=μ1) (b:=(h.new (.defs false)).2.bX) (({w with heap:=w.heap.push (.deferred (some []))}:World).heap.size,0) (A1.fresh _ (aI _))
   have BL:BR E ρ (μ1.put (h.new (.defs false)).2.bX (({w with heap:=w.heap.push (.deferred (some []))}:World).heap.size,0)) (.loop .ready none fr.fn fr.ts fr.nt params.toList asg body h.bX) (({w with heap:=w.heap.push (.deferred (some []))}:World).heap.size,0) (.loop L):=by
    have:=BR.loop (E:=E) (ρ:=ρ) (μ:=μ1.put (h.new (.defs false)).2.bX (({w with heap:=w.heap.push (.deferred (some []))}:World).heap.size,0)) (st:=.ready) (pend:=none) (fn:=fr.fn) (ts:=fr.ts) (nt:=fr.nt) (ps:=params.toList) (a:=asg) (b:=body) (d:=h.bX) (x:=(({w with heap:=w.heap.push (.deferred (some []))}:World).heap.size,0)) (tmps:=a.tmps) (y:=(w.heap.size,0))
     hf.size (fun t v hv=>by obtain ⟨X,x1,x2⟩:=hf1.tmps t v hv;exact ⟨X,eY hle2 _ _ x1,x2⟩) (hle2 _ _ hdb)
    simpa [L] using this
   have A2:=HR.alloc (cap:=0) (w':={w with heap:=(w.heap.push (.deferred (some []))).push (.loop L)}) A1 BL rfl;have G2:=Grows.alloc (w':={w with heap:=(w.heap.push (.deferred (some []))).push (.loop L)}) (o:=.loop L) A1 0 rfl rfl rfl rfl
   have hlb:(μ1.put (h.new (.defs false)).2.bX (({w with heap:=w.heap.push (.deferred (some []))}:World).heap.size,0)) (h.new (.defs false)).2.bX=some (w.heap.size+1,0):=by
    rw [Mu.put_same];simp
   generalize hμ2:μ1.put (h.new (.defs false)).2.bX (({w with heap:=w.heap.push (.deferred (some []))}:World).heap.size,0)=μ2 at A2 G2 hlb hle2;have G:=G1.trans G2;have hf2:FR ρ μ2 fr a:=hf.le G.le
   have hent:(Instr.enterLoop fr.fn a.tmps params asg body none).run P w=.ok (w.heap.size+1,[{target:=.collected w.heap.size,args:=#[]}]) {w with heap:=(w.heap.push (.deferred (some []))).push (.loop L)}:=by
    simp [Instr.enterLoop,newObj,Sem.run,L]
    rfl
   have hA:cE ρ μ2 [.yield (h.new (.defs false)).2.bX]=some [.func (.yield (w.heap.size+1)) #[] #[]]:=by
    simp [cE,conc,hlb]
   obtain ⟨v,h',hm,μ3,X,w3,q1,q2,q3,q4⟩:=pK ok A2 hlx (eY G.le _ _ f1) hA (FrR b {a with defers:={target:=.collected w.heap.size,args:=#[]}::a.defers} (.inRangeFunc (w.heap.size+1)::k)) cs;obtain ⟨o1,hc,hsub⟩:=hcont _ hm;have hf3:FR ρ μ3 fr a:=hf2.le q1.le;have hf3':=hf3.deferred (q1.le _ _ (G2.le _ _ hdb));obtain ⟨e,fr',h2,hm2,μ4,a',w4,r1,r2,r3,r4,r5,r6,r7⟩:=wI (P:=P) ok hc q2 hf3' (hctx.le (G.le.trans q1.le) rfl rfl) (q1.le _ _ hlb) k cs
   refine ⟨e,fr',h2,hsub _ hm2,μ4,a',w4,G.trans (q1.trans r1),r2,r3,r4,r5,r6,Arr.of_steps ?_ r7⟩;refine Ff (w1:={w with heap:=(w.heap.push (.deferred (some []))).push (.loop L)}) (s:=do let d ←Deferred.ofValue F #[.func (.yield (w.heap.size+1)) #[] #[]];invoke d.target d.args) (X:=X) ?_ (by simpa using q4);rw [←f2,←hres (.inRangeFunc (w.heap.size+1)::k) {a with defers:={target:=.collected w.heap.size,args:=#[]}::a.defers} _ rfl rfl]
   have hfn:=hctx.1;simp only [stepG,stepG.exec,FrR,hround,hfn,Sem.runT_eq,hent,GStep.bare_after]
   rfl
  ·cases hrun
 ·rename_i l0 hrnd;obtain ⟨y0,hy0,hround⟩:∃y,μ l0=some y∧b.roundOf=some y.1:=by have:=hctx.2;rw [hrnd] at this;exact this
  split at hrun
  ·rename_i st0 pend0 fn0 ts0 nt0 ps0 asg0 body0 dl hb0;obtain ⟨tmps0,z0,l1,l2,l3,q0,hq0,hz0⟩:=pf hh hb0 hy0
   split at hrun
   ·rename_i fv hfv;obtain ⟨F,f1,f2⟩:=cJ hf hfv;obtain ⟨lx,hlx,hcont⟩:=gA hrun
    let L:Loop:={state:=.ready,pending:=none,fn:=fr.fn,tmps:=a.tmps,params:=params,assign:=asg,body:=body,defers:=z0}
    have hle2:=Mu.le_put (μ:=μ) (b:=h.bX) (w.heap.size,0) (hh.fresh _ (aI _))
    have BL:BR E ρ (μ.put h.bX (w.heap.size,0)) (.loop .ready none fr.fn fr.ts fr.nt params.toList asg body dl) (w.heap.size,0) (.loop L):=by
     have:=BR.loop (E:=E) (ρ:=ρ) (μ:=μ.put h.bX (w.heap.size,0)) (st:=.ready) (pend:=none) (fn:=fr.fn) (ts:=fr.ts) (nt:=fr.nt) (ps:=params.toList) (a:=asg) (b:=body) (d:=dl) (x:=(w.heap.size,0)) (tmps:=a.tmps) (y:=q0)
      hf.size (fun t v hv=>by obtain ⟨X,x1,x2⟩:=hf.tmps t v hv;exact ⟨X,eY hle2 _ _ x1,x2⟩) (hle2 _ _ hq0)
     rw [hz0] at this;simpa [L] using this
    have A2:=HR.alloc (cap:=0) (w':={w with heap:=w.heap.push (.loop L)}) hh BL rfl;have G:=Grows.alloc (w':={w with heap:=w.heap.push (.loop L)}) (o:=.loop L) hh 0 rfl rfl rfl rfl;have hlb:(μ.put h.bX (w.heap.size,0)) h.bX=some (w.heap.size,0):=Mu.put_same _ _ _;generalize hμ2:μ.put h.bX (w.heap.size,0)=μ2 at A2 G hlb hle2;have hf2:FR ρ μ2 fr a:=hf.le G.le
    have hent:(Instr.enterLoop fr.fn a.tmps params asg body (some y0.1)).run P w=.ok (w.heap.size,[]) {w with heap:=w.heap.push (.loop L)}:=by
     simp [Instr.enterLoop,lh l1,newObj,Sem.run,L]
    have hA:cE ρ μ2 [.yield h.bX]=some [.func (.yield w.heap.size) #[] #[]]:=by
     simp [cE,conc,hlb]
    obtain ⟨v,h',hm,μ3,X,w3,q1,q2,q3,q4⟩:=pK ok A2 hlx (eY G.le _ _ f1) hA (FrR b a (.inRangeFunc w.heap.size::k)) cs;obtain ⟨o1,hc,hsub⟩:=hcont _ hm;have hf3:FR ρ μ3 fr a:=hf2.le q1.le;obtain ⟨e,fr',h2,hm2,μ4,a',w4,r1,r2,r3,r4,r5,r6,r7⟩:=wI (P:=P) ok hc q2 hf3 (hctx.le (G.le.trans q1.le) rfl rfl) (q1.le _ _ hlb) k cs;refine ⟨e,fr',h2,hsub _ hm2,μ4,a',w4,G.trans (q1.trans r1),r2,r3,r4,r5,r6,Arr.of_steps ?_ r7⟩
    refine Ff (w1:={w with heap:=w.heap.push (.loop L)}) (s:=do let d ←Deferred.ofValue F #[.func (.yield w.heap.size) #[] #[]];invoke d.target d.args) (X:=X) ?_ (by simpa using q4);rw [←f2,←hres (.inRangeFunc w.heap.size::k) a _ rfl rfl];have hfn:=hctx.1;simp only [stepG,stepG.exec,FrR,hround,hfn,Sem.runT_eq,hent,GStep.bare_after]
    rfl
   ·cases hrun
  ·cases hrun
end
def qb (b:Fb) (a:Act) (todo:List Item):Frame:={FrR b a todo with mode:=.returning}
section
variable {P : Program} {E : Env} {ρ : Rho} {ih : Rec} {μ : Mu}
theorem st_end {b:Fb} (hb:b.roundOf=none) {a:Act} {cs:List Frame} {w:World}:step P (lone (FrR b a []) cs w)=.next (lone (qb b a []) cs w) :=
 step_lone_go (by simp [stepG,stepG.exec,FrR,qb,hb])
theorem st_ret {b:Fb} (hb:b.roundOf=none) {a:Act} {k:List Item} {cs:List Frame} {w:World}:step P (lone (FrR b a (.code .ret::k)) cs w)=.next (lone (qb b a (.code .ret::k)) cs w) :=
 step_lone_go (by simp [stepG,stepG.exec,FrR,qb,hb])
theorem CQ {b:Fb} {tmps:Array Value} {ds:List Deferred} {r:Nat} {todo:List Item} {cs:List Frame} {w:World} (h:w.heap[r]?=some (.deferred (some []))) :
  step P (lone (qb b ⟨tmps,{target:=.collected r,args:=#[]}::ds⟩ todo) cs w)=.next (lone (qb b ⟨tmps,ds⟩ todo) cs (World.at_ w r (.deferred none))):=by
 have ht:(Instr.takeDeferred r).run P w=.ok [] (World.at_ w r (.deferred none)):=by simp [Instr.takeDeferred,getObj,setObj,Sem.run,h,World.at_]
 exact step_lone_go (by simp [stepG,unwind,FrR,qb,ht])
theorem uZ:∀{mks:List D} {l:List Deferred} {h h':H} {w:World},DR μ mks l→jF mks h=some h'→HR E ρ μ h w→∃w',Grows μ w μ w'∧HR E ρ μ h' w' ∧
  ∀(b:Fb) (tmps:Array Value) (todo:List Item) (cs:List Frame),Steps P (lone (qb b ⟨tmps,l⟩ todo) cs w) (lone (qb b ⟨tmps,[]⟩ todo) cs w')
 | [],_,h,h',w,.nil,he,hh=>by
  injection he with he;subst he;exact ⟨w,Grows.refl _ _,hh,fun _ _ _ _=>.refl _ _⟩
 | .mark db::mks,_,h,h',w,.mark (x:=x) (l:=l) hx k,he,hh=>by
  simp only [jF] at he
  split at he
  ·rename_i hb;obtain ⟨o,o1,o2⟩:=uH hh hb hx
   cases o2
   have hch:HR E ρ μ (h.put db (.defs true)) (World.at_ w x.1 (.deferred none)) :=
    HR.change hh hb hx (.defs (taken:=true)) io (fun g hg=>gj hg) (mc (gf o1))
   have hgr:Grows μ w μ (World.at_ w x.1 (.deferred none)):=Grows.change hx io (fun g hg=>gj hg) rfl rfl rfl;obtain ⟨w',g1,g2,g3⟩:=uZ k he hch;exact ⟨w',hgr.trans g1,g2,fun b tmps todo cs=>.head (CQ (by simpa using o1)) (g3 b tmps todo cs)⟩
  ·cases he
def wH (tmps:Array Value):ResultVar→Sem Value
 | .tmp t=>pure (tmps.getD t undef)
 | .cell p t=>do loadVar t (←asAddr (tmps.getD p undef))
theorem C6 (fn:Func) (tmps:Array Value):results fn tmps=(do let vs ←fn.results.mapM (wH tmps);pure (if h:vs.size=1 then vs[0] else .tuple vs)):=by
 unfold results
 congr 1
theorem yX (hE:EnvOk P E) {h:H} {w:World} {fr:Fr} {a:Act} (hh:HR E ρ μ h w) (hf:FR ρ μ fr a):∀{rs:List ResultVar} {vs:List V},resV E fr h rs=some vs →
  ∃L,cE ρ μ vs=some L∧(rs.mapM (wH a.tmps)).run P w=.ok L w
 | [],vs,he=>by
  injection he with he;subst he;exact ⟨[],by simp [cE],by simp⟩
 | r::rs,vs,he=>by
  simp only [resV] at he
  split at he
  ·cases he
  ·rename_i v hv
   split at he
   ·cases he
   ·rename_i vs' hvs;injection he with he;subst he;obtain ⟨L,l1,l2⟩:=yX hE hh hf hvs
    have fin:∀X,conc ρ μ v=some X→(wH a.tmps r).run P w=.ok X w→∃L,cE ρ μ (v::vs')=some L∧((r::rs).mapM (wH a.tmps)).run P w=.ok L w:=fun X x1 x2 =>
     ⟨X::L,eM x1 l1,by simp only [List.mapM_cons,Sem.run_bind,x2,Result.andThen_ok,l2,Sem.run_pure]⟩
    cases r with
    | tmp t =>
     simp only at hv;obtain ⟨X,x1,x2⟩:=hf.tmps t v hv;exact fin X x1 (by simp [wH,x2])
    | cell p t =>
     simp only at hv
     split at hv
     ·rename_i bb o hp;obtain ⟨X,x1,x2⟩:=hf.tmps _ _ hp;obtain ⟨z,hz,rfl⟩:=gi x1;obtain ⟨Y,y1,y2⟩:=yT hE hh hv hz
      have hld:(loadVar t ⟨z.1,o,none⟩).run P w=.ok Y w:=by
       simpa [Instr.loadAt,Instr.sureAddr] using y2
      exact fin Y y1 (by simp [wH,x2,asAddr,hld])
     ·cases hv
theorem yz (hE:EnvOk P E) {h:H} {w:World} {fr:Fr} {a:Act} (hh:HR E ρ μ h w) (hf:FR ρ μ fr a) {fn:Func} {vs:List V} (hr:resV E fr h fn.results.toList=some vs) :
  ∃X,conc ρ μ (og vs)=some X∧(results fn a.tmps).run P w=.ok X w:=by
 obtain ⟨L,l1,l2⟩:=yX (P:=P) hE hh hf hr
 have hmap:(fn.results.mapM (wH a.tmps)).run P w=.ok L.toArray w:=by
  rw [Array.mapM_eq_mapM_toList];simp only [Sem.run_map,l2,Result.andThen_ok]
 have hlen:=dc l1;rw [C6]
 match vs,L,l1,hlen with
 | [],[],_,_=>exact ⟨.tuple #[],by simp [og,conc,cE],by rw [Sem.run_bind,hmap];simp⟩
 | [v],[X],l1,_ =>
  obtain ⟨x,l,e,hx,hl⟩:=dQ l1;injection e with e1 e2;subst e1;exact ⟨X,by simpa [og] using hx,by rw [Sem.run_bind,hmap];simp⟩
 | v::u::vs,X::Y::L,l1,_ =>
  refine ⟨.tuple (X::Y::L).toArray,by simp [og,conc,l1],?_⟩;rw [Sem.run_bind,hmap];simp
theorem vl (hE:EnvOk P E) (ok:RecOk P E ρ ih) {f:Nat} {i:FI} (hi:∃fn,P.funcs[f]?=some fn∧fn.body=some i.body∧i.nt=fn.ntmps∧i.res=fn.results.toList∧(fn.name == "runtime.NumGoroutine")=false) {args:List V} {h:H} {outs:List (V×H)} (hrun:ll E ih f i args h=some outs) {w:World} {A:List Value} (hh:HR E ρ μ h w) (ha:cE ρ μ args=some A) (cs:List Frame) :
  (callFunc f A.toArray).run P w=.ok (.enter f A.toArray) w∧∃v h',(v,h')∈outs∧∃μ' X w',Grows μ w μ' w'∧HR E ρ μ' h' w'∧conc ρ μ' v=some X ∧
   ∃fr,Steps P (lone (Frame.enter P f A.toArray .normal) cs w) (lone fr cs w')∧fr.fn=f∧fr.leaving P w' (.returned X):=by
 unfold ll at hrun;obtain ⟨hle,hrun⟩:=cI hrun;have hle:=aZ hle;obtain ⟨fn,n1,n2,n3,n4,n5⟩:=hi
 have hcall:(callFunc f A.toArray).run P w=.ok (.enter f A.toArray) w:=by
  have hprog:(program).run P w=.ok P w:=rfl;simp only [callFunc,Sem.run_bind,hprog,Result.andThen_ok,n1,n5,Bool.false_eq_true,if_false,n2,Option.isNone_some,Sem.run_pure]
 have hAl:=dc ha
 let b:Fb:=⟨f,.normal,none⟩
 let a0:Act:=⟨A.toArray++Array.replicate (fn.ntmps - A.toArray.size) undef,[]⟩
 have hf0:FR ρ μ {ts:=T.putL .lf 0 args,nt:=i.nt,mks:=[],fn:=f,rnd:=none} a0:=by
  refine ⟨fun t v hv=>?_,?_,.nil⟩
  ·simp only [T.get_putL,T.get_lf] at hv
   split at hv
   ·rename_i ht;rw [Nat.sub_zero] at hv;obtain ⟨X,x1,x2⟩:=fX ha hv;refine ⟨X,x2,?_⟩;have hlt:t<A.toArray.size:=by simp;omega
    simp only [a0];rw [Array.getElem?_append_left hlt];simpa using x1
   ·cases hv
  ·simp only [a0,Array.size_append,Array.size_replicate,List.size_toArray];omega
 obtain ⟨l,hl,hcont⟩:=gA hrun;obtain ⟨e1,fr1,h1,hm1,μ1,a1,w1,g1,g2,g3,g4,g5,g6,g7⟩:=ok.code _ _ _ _ hl μ a0 w b hh hf0 ⟨rfl,rfl⟩ [] cs;obtain ⟨o1,hc,hsub⟩:=hcont _ hm1
 have main:e1≠.normal→e1≠.ret→False:=by
  intro q1 q2
  cases e1 with
  | normal=>exact q1 rfl
  | exit id=>cases hc
  | ret=>exact q2 rfl
 have hc':(match jF fr1.mks h1 with
    | none=>none
    | some h=>(match resV E fr1 h i.res with
     | some vs=>fQ (og vs,h)
     | none=>none))=some o1:=by
  cases e1 with
  | normal=>exact hc
  | exit id=>cases hc
  | ret=>exact hc
 split at hc'
 ·cases hc'
 ·rename_i h2 he
  split at hc'
  ·rename_i vs hvs;obtain rfl:=cT hc';obtain ⟨w2,q1,q2,q3⟩:=uZ (P:=P) g3.defs he g2;rw [n4] at hvs;have g3':FR ρ μ1 {fr1 with mks:=[]} ⟨a1.tmps,[]⟩:=⟨g3.tmps,g3.size,.nil⟩
   obtain ⟨X,x1,x2⟩:=yz (P:=P) hE q2 g3' (fn:=fn) (vs:=vs) (by
    have:∀rs,resV E {fr1 with mks:=[]} h2 rs=resV E fr1 h2 rs:=by
     intro rs
     induction rs with
     | nil=>rfl
     | cons r rs ih=>simp only [resV,ih]
    rw [this];exact hvs)
   refine ⟨hcall,_,_,hsub _ (aN.2 rfl),μ1,X,w2,g1.trans q1,q2,x1,?_⟩
   have hstart:Frame.enter P f A.toArray .normal=FrR b a0 [.code i.body]:=by
    simp [Frame.enter,n1,n2,FrR,b,a0]
   rw [hstart];have s1:=g7;have fin:∀todo,Steps P (lone (qb b a1 todo) cs w1) (lone (qb b ⟨a1.tmps,[]⟩ todo) cs w2):=fun todo=>q3 b a1.tmps todo cs;have lv:∀todo,(qb b ⟨a1.tmps,[]⟩ todo).leaving P w2 (.returned X):=fun todo=>⟨rfl,rfl,rfl,fn,n1,x2⟩
   cases e1 with
   | normal=>exact ⟨_,s1.trans (.head (st_end rfl) (fin _)),rfl,lv _⟩
   | exit id=>exact (main (by simp) (by simp)).elim
   | ret =>
    obtain ⟨k2,s2⟩:=s1;exact ⟨_,s2.trans (.head (st_ret rfl) (fin _)),rfl,lv _⟩
  ·cases hc'
theorem ov (hE:EnvOk P E) (ok:RecOk P E ρ ih) {f:Nat} {i:FI} (hi:E.fns.get f=some i) {args:List V} {h:H} {outs:List (V×H)} (hrun:gh E ih f args h=some outs) {w:World} {A:List Value} (hh:HR E ρ μ h w) (ha:cE ρ μ args=some A) (cs:List Frame) :
  (callFunc f A.toArray).run P w=.ok (.enter f A.toArray) w∧∃v h',(v,h')∈outs∧∃μ' X w',Grows μ w μ' w'∧HR E ρ μ' h' w'∧conc ρ μ' v=some X ∧
   ∃fr,Steps P (lone (Frame.enter P f A.toArray .normal) cs w) (lone fr cs w')∧fr.fn=f∧fr.leaving P w' (.returned X):=by
 unfold gh at hrun;rw [hi] at hrun;exact vl hE ok (hE.fns f i hi) hrun hh ha cs
theorem qH {α:Type}:∀(n:Nat) (t:T α) (k j:Nat),(t.delFrom k n).get j=if k≤j∧j<k+n then none else t.get j
 | 0,t,k,j=>by simp [T.delFrom];intro h h';omega
 | n+1,t,k,j=>by
  simp only [T.delFrom];rw [qH n,T.get_del]
  by_cases e:j=k
  ·subst e;rw [if_neg (by omega),if_pos rfl,if_pos (by omega)]
  ·rw [if_neg e]
   by_cases h2:k≤j∧j<k+(n+1)
   ·rw [if_pos (by omega),if_pos h2]
   ·rw [if_neg (by omega),if_neg h2]
theorem HR.less {h h':H} {w:World} (k:HR E ρ μ h w) (hn:h'.bX=h.bX) (hl:∀b B,h'.t.get b=some B→h.t.get b=some B):HR E ρ μ h' w :=
 ⟨fun b B hb=>k.blk b B (hl b B hb),fun b b' x x' h1 h2=>k.inj b b' x x' (by obtain ⟨B,hB⟩:=Option.isSome_iff_exists.1 h1;rw [hl b B hB];rfl) (by obtain ⟨B,hB⟩:=Option.isSome_iff_exists.1 h2;rw [hl b' B hB];rfl),
  fun b hb=>k.fresh b (by rw [←hn];exact hb),k.inb,k.cn⟩
theorem AS {n0:Nat} {v:V} {h:H} {μ0:Mu} {w0 w:World} {X:Value} (hg:Grows μ0 w0 μ w) (hh:HR E ρ μ h w) (hv:conc ρ μ v=some X) :
  ∃μ',Grows μ0 w0 μ' w∧HR E ρ μ' (zM n0 (v,h)).2 w∧conc ρ μ' (zM n0 (v,h)).1=some X:=by
 have plain:∀v,conc ρ μ v=some X→∃μ',Grows μ0 w0 μ' w∧HR E ρ μ' (v,{t:=T.delFrom h.t n0 (h.bX - n0),bX:=h.bX:H}).2 w∧conc ρ μ' (v,{t:=T.delFrom h.t n0 (h.bX - n0),bX:=h.bX:H}).1=some X:=fun v hv =>
  ⟨μ, hg, hh.less rfl (fun b B hb => by simp only [qH] at hb; split at hb; · cases hb
                                        ·exact hb),hv⟩
 unfold zM
 cases v with
 | slice b o n c =>
  simp only
  cases hb:Nat.ble n0 b with
  | false=>exact ⟨μ,hg,hh,hv⟩
  | true =>
   simp only [cond_true];have hb:=aZ hb
   cases hB:h.t.get b with
   | none=>exact ⟨μ,hg,hh,hv⟩
   | some B =>
    simp only;obtain ⟨x,o',h1,h2,h3⟩:=hh.blk b B hB
    have hlt:b<h.bX:=by
     rcases Nat.lt_or_ge b h.bX with q|q
     ·exact q
     ·rw [hh.fresh b q] at h1;cases h1
    have hfr:μ h.bX=none:=hh.fresh _ (aI _);have hle:=Mu.le_put (μ:=μ) (b:=h.bX) x hfr
    have hfrom:∀c y,(μ.put h.bX x) c=some y→∃d,μ d=some y∧(c=h.bX∧d=b∨c≠h.bX∧d=c):=fun c y hc=>by
     by_cases e:c=h.bX
     ·subst e;rw [Mu.put_same] at hc;exact ⟨b,by rw [h1];exact hc,.inl ⟨rfl,rfl⟩⟩
     ·rw [Mu.put_other _ _ e] at hc;exact ⟨c,hc,.inr ⟨e,rfl⟩⟩
    have hlive:∀c C,((T.delFrom h.t n0 (h.bX - n0)).set h.bX B).get c=some C→c=h.bX∧C=B∨c≠h.bX∧c<n0∧h.t.get c=some C:=fun c C hc=>by
     rw [T.get_set] at hc
     split at hc
     ·rename_i e;injection hc with hc;exact .inl ⟨e,hc.symm⟩
     ·rename_i e;rw [qH] at hc
      split at hc
      ·cases hc
      ·rename_i q;refine .inr ⟨e,?_,hc⟩
       rcases Nat.lt_or_ge c n0 with q'|q'
       ·exact q'
       ·obtain ⟨y,_,hy,_⟩:=hh.blk c C hc
        have:c<h.bX:=by
         rcases Nat.lt_or_ge c h.bX with q2|q2
         ·exact q2
         ·rw [hh.fresh c q2] at hy;cases hy
        omega
    refine ⟨μ.put h.bX x,⟨hg.le.trans hle,fun c y hc=>?_,hg.os,hg.tape,hg.output,hg.size,hg.block⟩,⟨fun c C hc=>?_,fun c c' y y' hc hc' e1 e2 hne=>?_,fun c hc=>?_,fun c y hc=>?_,fun g cs hcs=>?_⟩,?_⟩
    ·obtain ⟨d,hd,_⟩:=hfrom c y hc
     rcases hg.new d y hd with q|q|q
     ·by_cases e:c=h.bX
      ·subst e;exact .inr (.inr ⟨d,y,q,rfl⟩)
      ·rw [Mu.put_other _ _ e] at hc;exact (hg.new c y hc)
     ·exact .inr (.inl q)
     ·exact .inr (.inr q)
    ·rcases hlive c C hc with ⟨rfl,rfl⟩|⟨e,_,q⟩
     ·exact ⟨x,o',Mu.put_same _ _ _,h2,h3.le hle⟩
     ·obtain ⟨y,o2,k1,k2,k3⟩:=hh.blk c C q;exact ⟨y,o2,hle _ _ k1,k2,k3.le hle⟩
    ·obtain ⟨C,hC⟩:=Option.isSome_iff_exists.1 hc;obtain ⟨C',hC'⟩:=Option.isSome_iff_exists.1 hc'
     have dec:∀c C y,((T.delFrom h.t n0 (h.bX - n0)).set h.bX B).get c=some C→(μ.put h.bX x) c=some y→∃d,(h.t.get d).isSome∧μ d=some y∧(c=h.bX∧d=b∨c≠h.bX∧d=c∧c<n0):=fun c C y hC hy=>by
      obtain ⟨d,hd,q⟩:=hfrom c y hy
      rcases hlive c C hC with ⟨e,_⟩|⟨e,l,r⟩
      ·rcases q with ⟨_,q⟩|⟨q,_⟩
       ·exact ⟨d,by rw [q,hB];rfl,hd,.inl ⟨e,q⟩⟩
       ·exact absurd e q
      ·rcases q with ⟨q,_⟩|⟨_,q⟩
       ·exact absurd q e
       ·exact ⟨d,by rw [q,r];rfl,hd,.inr ⟨e,q,l⟩⟩
     obtain ⟨d,d1,d2,d3⟩:=dec c C y hC e1;obtain ⟨d',d1',d2',d3'⟩:=dec c' C' y' hC' e2;refine hh.inj d d' y y' d1 d1' d2 d2' ?_
     rcases d3 with ⟨p1,p2⟩|⟨p1,p2,p3⟩<;>rcases d3' with ⟨q1,q2⟩|⟨q1,q2,q3⟩
     ·exact absurd (p1.trans q1.symm) hne
     ·omega
     ·omega
     ·rw [p2,q2];exact hne
    ·have hc:h.bX+1≤c:=hc;rw [Mu.put_other _ _ (by omega)];exact hh.fresh c (by omega)
    ·obtain ⟨d,hd,_⟩:=hfrom c y hc;exact hh.inb d y hd
    ·obtain ⟨q1,q2⟩:=hh.cn g cs hcs;exact ⟨q1,fun c y hc=>by obtain ⟨d,hd,_⟩:=hfrom c y hc;exact q2 d y hd⟩
    ·simp only [conc] at hv ⊢;rw [Mu.put_same];rw [h1] at hv;exact hv
 | _=>exact plain _ hv
theorem uz:∀(t:T B) (k:Nat) (b:B),(yY t).get k=some b→t.get k=some b
 | .lf,k,b,h=>h
 | .nd l v r,0,b,h=>by
  simp only [yY,T.get] at h ⊢
  split at h
  ·rename_i c
   cases hk:keepB c with
   | true=>rw [hk] at h;exact h
   | false=>rw [hk] at h;cases h
  ·cases h
 | .nd l v r,k+1,b,h=>by
  simp only [yY,T.get] at h ⊢
  split at h
  ·exact uz l _ b h
  ·exact uz r _ b h
theorem Jq {x:V×H} {w:World} (k:HR E ρ μ x.2 w):HR E ρ μ (clean x).2 w:=k.less rfl fun b B h=>uz _ _ _ h
theorem GJ {α:Type} {eq:α→α→Bool} (he:∀x y,eq x y=true→x=y) {a b:Option α} (h:Da eq a b=true):a=b:=by
 cases a<;>cases b<;>simp [Da] at h
 ·rfl
 ·rw [he _ _ h]
theorem T.beq_eq {α:Type} {eq:α→α→Bool} (he:∀x y,eq x y=true→x=y):∀(a b:T α),T.beq eq a b=true→a=b
 | .lf,.lf,_=>rfl
 | .lf,.nd _ _ _,h=>by simp [T.beq] at h
 | .nd _ _ _,.lf,h=>by simp [T.beq] at h
 | .nd l v r,.nd l' v' r',h=>by
  simp only [T.beq,aU] at h;rw [GJ he h.1.1,T.beq_eq he l l' h.1.2,T.beq_eq he r r' h.2]
theorem xM:∀(a b:List (V×V×Nat)),rz a b=true→a=b
 | [],[],_=>rfl
 | [],_::_,h=>by simp [rz] at h
 | _::_,[],h=>by simp [rz] at h
 | (k,v,n)::r,(k',v',n')::r',h=>by
  simp only [rz,aU] at h;rw [V.beq_eq _ _ h.1.1.1,V.beq_eq _ _ h.1.1.2,aS h.1.2,xM r r' h.2]
theorem B.beq_eq (a b:B) (h:B.beq a b=true):a=b:=by
 cases a<;>cases b<;>simp [B.beq] at h
 ·obtain ⟨⟨⟨⟨h1,h2⟩,h3⟩,h4⟩,h5⟩:=h;rw [h1,h2,h3,V.beqL_eq _ _ h4,T.beq_eq V.beq_eq _ _ h5]
 ·obtain ⟨h1,h2⟩:=h;rw [h1,xM _ _ h2]
theorem Ja {x y:V×H} (h:BU x y=true):x=y:=by
 obtain ⟨v,t,n⟩:=x;obtain ⟨v',t',n'⟩:=y;simp only [BU,aU] at h;rw [aS h.1.1,V.beq_eq _ _ h.1.2,T.beq_eq B.beq_eq _ _ h.2]
theorem zf {x:V×H}:∀{l:List (V×H)},x∈l→x∈zc l
 | y::r,h=>by
  simp only [zc]
  rcases aW.1 h with e|h
  ·subst e
   cases ha:(zc r).any (BU x) with
   | false=>simp
   | true =>
    simp only [cond_true];obtain ⟨z,hz,hl⟩:=List.any_eq_true.1 ha;rw [Ja hl];exact hz
  ·have:=zf h
   cases ha:(zc r).any (BU y) with
   | false=>simp only [cond_false];exact aM _ this
   | true=>exact this
theorem vW:∀{es:List (V×V×Nat)} {ks:List (List UInt8)},yL es=some ks→es.map (·.1)=ks.map V.str
 | [],ks,h=>by injection h with h;subst h;rfl
 | (k,v,n)::r,ks,h=>by
  simp only [yL] at h
  split at h
  ·rename_i s l hl;injection h with h;subst h;simp only [bI,vW hl]
  ·cases h
theorem uR:∀{es:List (V×V×Nat)} {i:Nat},qZ i es=true→∀(j:Nat) e,es[j]?=some e→e.2.2=i+j
 | [],i,_,j,e,h=>by simp at h
 | x::r,i,hs,j,e,h=>by
  simp only [qZ,aU] at hs
  cases j with
  | zero=>simp at h;subst h;exact aS hs.1
  | succ j =>
   have:=uR hs.2 j e (by simpa using h);omega
theorem Dq (hE:EnvOk P E) {f:Nat} {args:List V} {h:H} {x:V×H} (hrun:zk E h f args=some x) {w:World} {A:List Value} (hh:HR E ρ μ h w) (ha:cE ρ μ args=some A):Res P E ρ μ w (callFunc f A.toArray) [x]:=by
 unfold zk at hrun
 split at hrun
 ·rename_i g b
  split at hrun
  ·rename_i e hsk;obtain ⟨henter,hK⟩:=hE.sk f g e hsk
   split at hrun
   ·rename_i i t n d el kd hi hb
    split at hrun
    ·rename_i m hm
     split at hrun
     ·rename_i es ck hmb
      split at hrun
      ·rename_i ks hks;obtain ⟨hok,hrun⟩:=cI hrun;simp only [Ag,aU,decide_eq_true_eq] at hok;obtain ⟨hsz,⟨⟨⟨hst,hck⟩,hnd⟩,hlen⟩,hall⟩:=hok;have hsz:=aS hsz;have hck:=aS hck;have hlen:=aZ hlen;obtain ⟨xb,ob,b1,b2,b3⟩:=hh.blk b _ hb;obtain ⟨xm,om,m1,m2,m3⟩:=hh.blk m _ hmb
       cases b3 with
       | cells hc hn h0 ho hf hf2 =>
        rename_i arr fz;obtain ⟨X,c1,c2⟩:=hc 0 _ hm;simp only [conc,m1,bo,Option.some.injEq] at c1;subst c1
        cases m3 with
        | map he hcm =>
         rename_i arrm
         have hAeq:A=[.func (.func g) #[] #[.pointer (some ⟨xb.1,0,none⟩)]]:=by
          simp [cE,conc,b1] at ha;exact ha.symm
         subst hAeq;have hmap:=vW hks
         have hent:∀(j:Nat) y,arrm[j]?=some y→∃k v,es[j]?=some (k,v,y.born)∧conc ρ μ k=some y.key:=by
          intro j y hy;have hlt:j<es.length:=by rw [he];exact (Array.getElem?_eq_some_iff.1 hy).1
          obtain ⟨K,X,q1,q2,q3⟩:=hcm j _ _ _ (List.getElem?_eq_getElem hlt);rw [q3] at hy;injection hy with hy;subst hy;exact ⟨_,_,List.getElem?_eq_getElem hlt,q1⟩
         have hkey:arrm.toList.map (·.key)=ks.map (fun s=>Value.string ⟨s.toArray⟩):=by
          apply List.ext_getElem?;intro j;simp only [List.getElem?_map,Array.getElem?_toList];have hj:(es.map (·.1))[j]?=(ks.map V.str)[j]?:=by rw [hmap]
          simp only [List.getElem?_map] at hj
          cases hy:arrm[j]? with
          | none =>
           have hes:es[j]?=none:=by rw [List.getElem?_eq_none];rw [he];exact Array.getElem?_eq_none_iff.1 hy
           rw [hes] at hj
           cases hk:ks[j]? with
           | none=>rfl
           | some s=>rw [hk] at hj;cases hj
          | some y =>
           obtain ⟨k,v,q1,q2⟩:=hent j y hy;rw [q1] at hj
           cases hk:ks[j]? with
           | none=>rw [hk] at hj;cases hj
           | some s =>
            rw [hk] at hj;simp only [bo,Option.some.injEq] at hj;subst hj;simp only [conc,Option.some.injEq] at q2;simp only [bo,←q2]
         have hborn:∀(j:Nat) y,arrm[j]?=some y→y.born=j:=by
          intro j y hy;obtain ⟨k,v,q1,q2⟩:=hent j y hy;have:=uR hst j _ q1;simpa using this
         have hstamped:MapKept.Stamped arrm ck:=by
          refine ⟨fun y hy=>?_,?_,?_⟩
          ·obtain ⟨j,hj⟩:=List.getElem?_of_mem hy;rw [Array.getElem?_toList] at hj;have hlt:=(Array.getElem?_eq_some_iff.1 hj).1;rw [hborn j y hj,hck,he];exact hlt
          ·have:arrm.toList.map (·.born)=List.range arrm.size:=by
            apply List.ext_getElem?;intro j;simp only [List.getElem?_map,Array.getElem?_toList]
            cases hy:arrm[j]? with
            | none =>
             have:=Array.getElem?_eq_none_iff.1 hy;rw [List.getElem?_eq_none (by simpa using this)];rfl
            | some y =>
             have hlt:=(Array.getElem?_eq_some_iff.1 hy).1;rw [List.getElem?_range hlt,bo,hborn j y hy]
           rw [this];exact List.nodup_range
          ·rw [hkey];refine List.Pairwise.map _ (fun a b hab e=>hab ?_) hnd;simpa using e
         have hcell:w.cell? ⟨xb.1,0,none⟩=some (.map (some xm.1)):=by simp [World.cell?,b2,c2]
         intro c cs;obtain ⟨e',w',fr,⟨v,rfl,hrow,hnil,hbel⟩,hcomes,hfn,hlv⟩:=hK w xb.1 xm.1 arrm ck ks hcell m2 hstamped hkey (fun k hk=>aZ (bH.1 hall k hk)) (by rw [←he];exact hlen) (c::cs);have hsteps:AG P c cs (Frame.enter P f #[.func (.func g) #[] #[.pointer (some ⟨xb.1,0,none⟩)]] .normal) w v w':=Steps.trans hcomes (.one (step_leave_returned hlv));have hkeep:∀k,k<w.heap.size→w'.heap[k]?=w.heap[k]?:=fun k hk=>hbel.block k hk
         have hglob:∀g cs,E.globs.get g=some cs→(∃arr e fz,w'.heap[g]?=some (.cells arr e fz)∧JR ρ cs arr):=fun g cs q=>by
          obtain ⟨⟨arr,e,fz,q1,q2⟩,_⟩:=hh.cn g cs q
          have hlt:g<w.heap.size:=by
           rcases Nat.lt_or_ge g w.heap.size with q|q
           ·exact q
           ·rw [Array.getElem?_eq_none q] at q1;cases q1
          exact ⟨arr,e,fz,by rw [hkeep g hlt];exact q1,q2⟩
         have hr1:HR E ρ μ h w':=⟨fun b B q=>by
           obtain ⟨x,o,q1,q2,q3⟩:=hh.blk b B q
           exact ⟨x,o,q1,by rw [hkeep _ (hh.inb b x q1)];exact q2,q3⟩,hh.inj,hh.fresh,fun b x q=>Nat.lt_of_lt_of_le (hh.inb b x q) hbel.size,fun g cs q=>⟨hglob g cs q,(hh.cn g cs q).2⟩⟩
         cases ks with
         | nil =>
          injection hrun with hrun;subst hrun;obtain rfl:=hnil.2 rfl;exact ⟨_,_,aN.2 rfl,μ,.slice none 0 0,w',⟨Le.refl μ,fun _ _ h=>.inl h,hbel.os,hbel.tape,hbel.output,hbel.size,fun g hg _=>hbel.block g hg⟩,hr1,by simp only [conc],.inr (.inr (.inl ⟨f,_,w,henter _ _,hsteps⟩))⟩
         | cons k0 kr =>
          injection hrun with hrun;subst hrun
          rcases hrow.2 with ⟨hv,_⟩|⟨gb,cap,cur,hv,hge,hcur,hle,_,hcsz,htake⟩
          ·exact absurd (hnil.1 hv) (by simp)
          ·subst hv;have hgb:gb<w'.heap.size:=(Array.getElem?_eq_some_iff.1 hcur).1;have hlenS:(dK (k0::kr)).length=(k0::kr).length:=by unfold dK;rw [List.length_mergeSort]
           have hfr:μ h.bX=none:=hh.fresh _ (aI _);have hlep:=Mu.le_put (μ:=μ) (b:=h.bX) (gb,cap) hfr
           have hbr:BR E ρ (μ.put h.bX (gb,cap)) (.cells (T.putL .lf 0 ([]++(dK (k0::kr)).map V.str)) ([]++(dK (k0::kr)).map V.str).length [.nilp] e 1) (gb,cap) (.cells cur e (0,0)):=by
            refine .cells (fun j v q=>?_) ?_ (by rintro (q|q)<;>cases q) (fun _=>⟨i,hi,by rw [hcsz,hsz]⟩) (fun _ _=>rfl) (fun _=>.inl rfl)
            ·simp only [List.nil_append,bO,hlenS] at q
             have hj:j<(k0::kr).length:=by
              unfold eH at q;obtain ⟨q0,_⟩:=cI q;simpa using q0
             have hget:v=.str (dK (k0::kr))[j]:=by
              unfold eH at q;obtain ⟨_,q⟩:=cI q;rw [T.get_putL] at q;simp only [Nat.zero_le,bO,hlenS,aH,hj,and_self,if_true,Nat.sub_zero] at q;rw [List.getElem?_map,List.getElem?_eq_getElem (by rw [hlenS];exact hj)] at q;simpa using q.symm
             subst hget;refine ⟨.string ⟨(dK (k0::kr))[j].toArray⟩,by simp only [conc],?_⟩
             have ht:(cur.toList.take ((k0::kr).length * 1))[j]?=some (.string ⟨(dK (k0::kr))[j].toArray⟩):=by
              rw [htake,List.getElem?_map,List.getElem?_eq_getElem (by rw [hlenS];exact hj)];rfl
             rw [List.getElem?_take_of_lt (by omega)] at ht;simpa using ht
            ·simp only [List.nil_append,bO,hlenS];omega
           refine ⟨_,_,aN.2 rfl,μ.put h.bX (gb,cap),.slice (some ⟨gb,0,none⟩) (k0::kr).length cap,w',⟨hlep,fun c y hc=>?_,hbel.os,hbel.tape,hbel.output,hbel.size,fun g hg _=>hbel.block g hg⟩,⟨fun c C hc=>?_,fun c c' y y' hc hc' e1 e2 hne=>?_,fun c hc=>?_,fun c y hc=>?_,fun g cs q=>⟨hglob g cs q,fun c y hc=>?_⟩⟩,?_,.inr (.inr (.inl ⟨f,_,w,henter _ _,hsteps⟩))⟩
           ·by_cases e1:c=h.bX
            ·subst e1;rw [Mu.put_same] at hc;injection hc with hc;rw [←hc];exact .inr (.inl hge)
            ·rw [Mu.put_other _ _ e1] at hc;exact .inl hc
           ·simp only [grow,row,H.new,T.get_set] at hc
            by_cases e1:c=h.bX
            ·subst e1;rw [if_pos rfl] at hc;injection hc with hc;subst hc;exact ⟨_,_,Mu.put_same _ _ _,hcur,hbr⟩
            ·rw [if_neg e1] at hc;obtain ⟨y,o,q1,q2,q3⟩:=hr1.blk c C hc;exact ⟨y,o,hlep _ _ q1,q2,q3.le hlep⟩
           ·simp only [grow,row,H.new,T.get_set] at hc hc'
            by_cases f1:c=h.bX
            ·subst f1;rw [Mu.put_same] at e1;injection e1 with e1;rw [Mu.put_other _ _ (Ne.symm hne)] at e2;have:=hh.inb _ _ e2;rw [←e1];show gb≠_;omega
            ·by_cases f2:c'=h.bX
             ·subst f2;rw [Mu.put_same] at e2;injection e2 with e2;rw [Mu.put_other _ _ f1] at e1;have:=hh.inb _ _ e1;rw [←e2];show _≠gb;omega
             ·rw [if_neg f1] at hc;rw [if_neg f2] at hc';rw [Mu.put_other _ _ f1] at e1;rw [Mu.put_other _ _ f2] at e2;exact hh.inj c c' y y' hc hc' e1 e2 hne
           ·have hc:h.bX+1≤c:=hc;rw [Mu.put_other _ _ (by omega)];exact hh.fresh c (by omega)
           ·by_cases e1:c=h.bX
            ·subst e1;rw [Mu.put_same] at hc;injection hc with hc;rw [←hc];exact hgb
            ·rw [Mu.put_other _ _ e1] at hc;exact hr1.inb c y hc
           ·by_cases e1:c=h.bX
            ·subst e1;rw [Mu.put_same] at hc;injection hc with hc;rw [←hc];intro e2;obtain ⟨⟨arr,e3,fz,q1,q2⟩,_⟩:=hh.cn g cs q;have hlt:g<w.heap.size:=(Array.getElem?_eq_some_iff.1 q1).1;have:gb=g:=e2;omega
            ·rw [Mu.put_other _ _ e1] at hc;exact (hh.cn g cs q).2 c y hc
           ·simp [grow,row,H.new,conc,Mu.put_same,gg]
            try omega
       | _=>cases hb
      ·cases hrun
     ·cases hrun
    ·cases hrun
   ·cases hrun
  ·cases hrun
 ·cases hrun
theorem DN (hE:EnvOk P E) (ok:RecOk P E ρ ih) {f:Nat} {args:List V} {h:H} {outs:List (V×H)} (hrun:gh E ih f args h=some outs) {w:World} {A:List Value} (hh:HR E ρ μ h w) (ha:cE ρ μ args=some A) :
  Res P E ρ μ w (callFunc f A.toArray) outs:=by
 intro c cs
 cases hi:E.fns.get f with
 | none =>
  unfold gh at hrun;rw [hi] at hrun;simp only [oQ] at hrun
  split at hrun
  ·rename_i k hk;obtain ⟨v,h1,rfl⟩:=eN hrun;obtain ⟨Y,y1,y2⟩:=hE.exts f k hk ρ μ args A v h1 ha;exact Res.of_val hh y1 (y2 w) c cs
  ·split at hrun
   ·rename_i i hsw
    split at hrun
    ·rename_i l hl;injection hrun with hrun;subst hrun;obtain ⟨hcall,v,h',hm,μ',X,w',g1,g2,g3,g4⟩:=vl hE ok (hE.sw f i hsw) hl hh ha (c::cs);obtain ⟨μ2,k1,k2,k3⟩:=AS (n0:=h.bX) g1 g2 g3;refine ⟨_,_,zf (bP.2 ⟨_,hm,rfl⟩),μ2,X,w',k1,Jq k2,k3,.inr (.inr (.inl ⟨f,A.toArray,w,hcall,?_⟩))⟩;obtain ⟨fr,s1,_,s2⟩:=g4;exact s1.trans (.one (step_leave_returned s2))
    ·cases hrun
   ·cases hdc:(E.dn.contains f&&args.isEmpty) with
    | false =>
     rw [hdc] at hrun;obtain ⟨x,hx,rfl⟩:=kQ hrun;exact Dq hE hx hh ha c cs
    | true =>
    have hc:=hdc;rw [hdc] at hrun;obtain rfl:=cT hrun;simp only [aU] at hc;obtain ⟨hdn,hnil⟩:=hc;have hnil:args=[]:=by cases args<;>simp_all
    subst hnil;have hA:A=[]:=by simp [cE] at ha;exact ha
    subst hA;obtain ⟨hcall,hC⟩:=hE.dn f hdn ρ w (fun g cs h=>(hh.cn g cs h).1);obtain ⟨w',hb,hC⟩:=hC (c::cs)
    refine ⟨_,_,aN.2 rfl,μ,.bool true,w',⟨Le.refl μ,fun _ _ h=>.inl h,hb.os,hb.tape,hb.output,hb.size,fun g hg _=>hb.block g hg⟩,⟨fun b B h=>by simp [T.get_lf] at h,fun b b' x x' h=>by simp [T.get_lf] at h,hh.fresh,fun b x h=>Nat.lt_of_lt_of_le (hh.inb b x h) hb.size,fun g cs h=>?_⟩,rfl,.inr (.inr (.inl ⟨f,#[],w,hcall,?_⟩))⟩
    ·obtain ⟨⟨arr,e,fz,q1,q2⟩,q3⟩:=hh.cn g cs h
     have hlt:g<w.heap.size:=by
      rcases Nat.lt_or_ge g w.heap.size with q|q
      ·exact q
      ·rw [Array.getElem?_eq_none q] at q1;cases q1
     exact ⟨⟨arr,e,fz,by rw [hb.block g hlt];exact q1,q2⟩,q3⟩
    ·obtain ⟨fr,s1,_,s2⟩:=hC;exact s1.trans (.one (step_leave_returned s2))
 | some i =>
  obtain ⟨hcall,v,h',hm,μ',X,w',g1,g2,g3,g4⟩:=ov hE ok hi hrun hh ha (c::cs);refine ⟨v,h',hm,μ',X,w',g1,g2,g3,.inr (.inr (.inl ⟨f,A.toArray,w,hcall,?_⟩))⟩;obtain ⟨fr,s1,_,s2⟩:=g4;exact s1.trans (.one (step_leave_returned s2))
theorem CL (hE:EnvOk P E) (hp:Plain ρ) (ok:RecOk P E ρ ih):RecOk P E ρ (vy E ih):=by
 refine ⟨fun f args h outs hrun μ w A hh ha=>DN hE ok hrun hh ha,fun l args h outs hrun μ w A y hh hy ha=>AJ ok hrun hh hy ha,fun c fr h outs hrun μ a w b hh hf hctx k cs=>?_⟩
 cases hc:c with
 | rangeFunc f ps asg body=>subst hc;exact Bz ok hrun b hh hf hctx k cs
 | _=>exact hc ▸ DF hE hp ok hrun (fun f ps asg body q=>by rw [hc] at q;cases q) b hh hf hctx k cs
theorem Fc (hE:EnvOk P E) (hp:Plain ρ):∀n,RecOk P E ρ (ev E n)
 | 0=>⟨(fun _ _ _ _ h=>by cases h),(fun _ _ _ _ h=>by cases h),(fun _ _ _ _ h=>by cases h)⟩
 | n+1=>CL hE hp (Fc hE hp n)
end
end Go.Ev
namespace Go.Ev
open Go Go.RowKit
def h0:H:={t:=.lf,bX:=0}
theorem hr0 {E:Env} {ρ:Rho} {w:World} (hg:vq E ρ w):HR E ρ (fun _=>none) h0 w :=
 ⟨(fun b B h=>by simp [h0,T.get_lf] at h),(fun b b' x x' h=>by simp [h0,T.get_lf] at h),fun _ _=>rfl,(fun b x h=>by cases h),fun g cs h=>⟨hg g cs h,(fun b x h=>by cases h)⟩⟩
theorem Grows.below {w w':World} {μ:Mu} (h:Grows (fun _=>none) w μ w'):Below w.heap.size w w' :=
 ⟨h.os,h.tape,h.output,h.size,fun k hk=>h.block k hk fun _ _ h=>by cases h⟩
def isTrue:V→Bool
 | .bool true=>true
 | _=>false
def vN (r:R (V×H)):Bool :=
 match r with
 | some l=>l.all fun x=>isTrue x.1
 | none=>false
theorem vi {ρ:Rho} {μ:Mu} {v:V} {X:Value} (h:isTrue v=true) (hx:conc ρ μ v=some X):X=.bool true:=by
 unfold isTrue at h
 split at h
 ·simp only [conc] at hx;injection hx with hx;exact hx.symm
 ·cases h
section
variable {P : Program} {E : Env} {ρ : Rho}
theorem DM (hE:EnvOk P E) (hp:Plain ρ) (n f:Nat) {args:List V} {A:List Value} (hf:(E.fns.get f).isSome=true) (hrun:vN ((ev E (n+1)).call f args h0)=true) (ha:cE ρ (fun _=>none) args=some A) {w:World} (hg:vq E ρ w) :
  Calls P f A.toArray w fun e w'=>e=.returned (.bool true)∧Below w.heap.size w w':=by
 obtain ⟨i,hi⟩:=Option.isSome_iff_exists.1 hf
 cases ho:(ev E (n+1)).call f args h0 with
 | none=>rw [ho] at hrun;cases hrun
 | some outs =>
  rw [ho] at hrun;have hrun':gh E (ev E n) f args h0=some outs:=ho;intro cs;obtain ⟨_,v,h',hm,μ',X,w',g1,g2,g3,g4⟩:=ov hE (Fc hE hp n) hi hrun' (hr0 hg) ha cs
  have ht:isTrue v=true:=by
   have:=bH.1 hrun _ hm;exact this
  have hX:=vi ht g3;subst hX;obtain ⟨fr,s1,s2,s3⟩:=g4;exact ⟨.returned (.bool true),w',fr,⟨rfl,g1.below⟩,s1,s2,s3⟩
theorem Hj (hE:EnvOk P E) (hp:Plain ρ) (n f:Nat) (hf:(E.fns.get f).isSome=true) (hrun:vN ((ev E (n+1)).call f [] h0)=true) {w:World} (hg:vq E ρ w):Done P f w:=by
 obtain ⟨i,hi⟩:=Option.isSome_iff_exists.1 hf
 cases ho:(ev E (n+1)).call f [] h0 with
 | none=>rw [ho] at hrun;cases hrun
 | some outs =>
  rw [ho] at hrun;have hrun':gh E (ev E n) f [] h0=some outs:=ho;refine ⟨(ov hE (Fc hE hp n) hi hrun' (hr0 hg) (A:=[]) (by simp [cE]) []).1,fun cs=>?_⟩;obtain ⟨_,v,h',hm,μ',X,w',g1,g2,g3,g4⟩:=ov hE (Fc hE hp n) hi hrun' (hr0 hg) (A:=[]) (by simp [cE]) cs
  have ht:isTrue v=true:=by
   have:=bH.1 hrun _ hm;exact this
  have hX:=vi ht g3;subst hX;exact ⟨w',g1.below,g4⟩
end
theorem th {P:Program}:∀(l:List Nat) (t:Nat) (i:TI),(pX P l).get t=some i→TI.of P t=some i
 | [],t,i,h=>by simp [pX,T.get_lf] at h
 | x::r,t,i,h=>by
  simp only [pX] at h
  split at h
  ·rename_i j hj;rw [T.get_set] at h
   split at h
   ·rename_i e;injection h with h;subst h e;exact hj
   ·exact th r t i h
  ·exact th r t i h
theorem pq {P:Program}:∀(l:List Nat) (t:Nat) (i:FI),(nh P l).get t=some i→FI.of P t=some i
 | [],t,i,h=>by simp [nh,T.get_lf] at h
 | x::r,t,i,h=>by
  simp only [nh] at h
  split at h
  ·rename_i j hj;rw [T.get_set] at h
   split at h
   ·rename_i e;injection h with h;subst h e;exact hj
   ·exact pq r t i h
  ·exact pq r t i h
theorem EZ {P:Program} {f:Nat} {i:FI} (h:FI.of P f=some i):∃fn,P.funcs[f]?=some fn∧fn.body=some i.body∧i.nt=fn.ntmps∧i.res=fn.results.toList∧(fn.name == "runtime.NumGoroutine")=false:=by
 unfold FI.of at h
 split at h
 ·rename_i fn hf
  split at h
  ·rename_i c hc
   split at h
   ·cases h
   ·rename_i hn;injection h with h;subst h;exact ⟨fn,hf,hc,rfl,rfl,hn⟩
  ·cases h
 ·cases h
theorem Hi {P:Program} (hm:P.follows .mixedOrders=true) (ts fs sw dn es:List Nat) (hes:(es.all fun t => !P.eqGuardType P.depth t && !P.stoodInHeld t)=true) (globs:T (List V))
  (hdn:∀f,f∈dn→∀(ρ:Rho) (w:World),vq (pR P ts fs sw dn es globs) ρ w→Done P f w):EnvOk P (pR P ts fs sw dn es globs):=by
 refine ⟨fun t i h=>th ts t i h,fun f i h=>EZ (pq fs f i h),(fun t n f h=>by simp [pR,wU] at h),(fun ty h=>?_),(fun f k h=>by simp [pR,vf] at h),fun f i h=>EZ (pq sw f i h),fun f h=>hdn f (by simpa [pR] using h),hm,fun f g e h=>by simp [pR,A9] at h⟩;have hmem:ty∈es:=by simpa [pR] using h
 have:=bH.1 hes ty hmem;simpa using this
def iy (P:Program) (ts fs sw dn es:List Nat) (sk:List (Nat×Nat×Nat)) (globs:T (List V)):Env :=
 {tys:=pX P ts,fns:=nh P fs,meths:=[],eqs:=es,exts:=[],globs:=globs,sw:=nh P sw,dn:=dn,sk:=sk}
theorem A8 {f g e:Nat}:∀{l:List (Nat×Nat×Nat)},A9 f l [g]=some e→(f,g,e)∈l
 | [],h=>by cases h
 | (f',g',e')::r,h=>by
  simp only [A9] at h
  cases hb:(Nat.beq f f'&&[g].contains g') with
  | true =>
   rw [hb] at h;injection h with h;subst h;simp only [aU,List.contains_cons,List.contains_nil,Bool.or_false,beq_iff_eq] at hb;have e1:=aS hb.1;have e2:=hb.2;subst e1 e2;exact aT ..
  | false=>rw [hb] at h;exact aM _ (A8 h)
theorem Hh {P:Program} (hm:P.follows .mixedOrders=true) (ts fs sw dn es:List Nat) (hes:(es.all fun t => !P.eqGuardType P.depth t && !P.stoodInHeld t)=true) (sk:List (Nat×Nat×Nat)) (hsk:∀x∈sk,zH P x.1 x.2.1 x.2.2) (globs:T (List V))
  (hdn:∀f,f∈dn→∀(ρ:Rho) (w:World),vq (iy P ts fs sw dn es sk globs) ρ w→Done P f w):EnvOk P (iy P ts fs sw dn es sk globs):=by
 refine ⟨fun t i h=>th ts t i h,fun f i h=>EZ (pq fs f i h),(fun t n f h=>by simp [iy,wU] at h),(fun ty h=>?_),(fun f k h=>by simp [iy,vf] at h),fun f i h=>EZ (pq sw f i h),fun f h=>hdn f (by simpa [iy] using h),hm,fun f g e h=>hsk (f,g,e) (A8 h)⟩;have hmem:ty∈es:=by simpa [iy] using h
 have:=bH.1 hes ty hmem;simpa using this
end Go.Ev
