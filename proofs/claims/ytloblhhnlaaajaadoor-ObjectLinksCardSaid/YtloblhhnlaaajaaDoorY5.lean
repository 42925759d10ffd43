/- What an operation does, by the evaluator's word. -/
import Derived.Test.YtloblhhnlaaajaaDoorY4
import Derived.Control
set_option linter.unusedVariables false
set_option linter.unusedSimpArgs false
set_option linter.defProp false
namespace Go.Ev
open Go
def AG (P:Program) (c:Frame) (cs:List Frame) (fr:Frame) (w:World) (X:Value) (w':World):Prop:=Steps P (lone fr (c::cs) w) (lone (c.finish X) cs w')
def DT (P:Program) (c:Frame) (cs:List Frame) (s:Sem Next) (w:World) (X:Value) (w':World):Prop :=
 s.run P w=.ok (.value X) w'∨(s.run P w=.ok .skip w'∧X=undef) ∨
 (∃f args w1,s.run P w=.ok (.enter f args) w1∧AG P c cs (Frame.enter P f args .normal) w1 X w') ∨
 (∃l f tmps asg body w1,s.run P w=.ok (.round l f tmps asg body) w1∧AG P c cs (Frame.round l f tmps asg body .normal) w1 X w')
theorem DT.of_eq {P:Program} {c:Frame} {cs:List Frame} {s s':Sem Next} {w:World} {X:Value} {w':World} (h:DT P c cs s w X w') (e:s'.run P w=s.run P w):DT P c cs s' w X w':=by
 rcases h with h|⟨h,hx⟩|⟨f,args,w1,h,k⟩|⟨l,f,tmps,asg,body,w1,h,k⟩
 ·exact .inl (by rw [e];exact h)
 ·exact .inr (.inl ⟨by rw [e];exact h,hx⟩)
 ·exact .inr (.inr (.inl ⟨f,args,w1,by rw [e];exact h,k⟩))
 ·exact .inr (.inr (.inr ⟨l,f,tmps,asg,body,w1,by rw [e];exact h,k⟩))
section
variable (P : Program) (E : Env) (ρ : Rho)
def Res (μ:Mu) (w:World) (s:Sem Next) (outs:List (V×H)):Prop :=
 ∀(c:Frame) (cs:List Frame),∃v h',(v,h')∈outs∧∃μ' X w',Grows μ w μ' w'∧HR E ρ μ' h' w'∧conc ρ μ' v=some X∧DT P c cs s w X w'
end
structure Fb where
 fn:FuncId
 kind:CallKind
 roundOf:Option Nat
def FrR (b:Fb) (a:Act) (todo:List Item):Frame:={fn:=b.fn,tmps:=a.tmps,todo,defers:=a.defers,mode:=.run,kind:=b.kind,roundOf:=b.roundOf}
def Arr (P:Program) (m:Machine) (b:Fb) (k:List Item) (cs:List Frame):Ex→Act→World→Prop
 | .normal,a,w=>Steps P m (lone (FrR b a k) cs w)
 | .exit id,a,w=>∃k2,exitTo id k2=exitTo id k∧Steps P m (lone (FrR b a (.code (.exit id)::k2)) cs w)
 | .ret,a,w=>∃k2,Steps P m (lone (FrR b a (.code .ret::k2)) cs w)
def Ctx (μ:Mu) (fr:Fr) (b:Fb):Prop :=
 b.fn=fr.fn∧(match fr.rnd with
  | none=>b.roundOf=none
  | some l=>∃y,μ l=some y∧b.roundOf=some y.1)
structure RecOk (P:Program) (E:Env) (ρ:Rho) (ih:Rec):Prop where
 call:∀f args h outs,ih.call f args h=some outs→∀μ w A,HR E ρ μ h w→cE ρ μ args=some A→Res P E ρ μ w (callFunc f A.toArray) outs
 yield:∀l args h outs,ih.yield l args h=some outs→∀μ w A y,HR E ρ μ h w→μ l=some y→cE ρ μ args=some A→Res P E ρ μ w (Instr.yield y.1 A.toArray) outs
 code:∀c fr h outs,ih.code c fr h=some outs→∀μ a w b,HR E ρ μ h w→FR ρ μ fr a→Ctx μ fr b→∀(k:List Item) (cs:List Frame),
  ∃e fr' h',(e,fr',h')∈outs∧∃μ' a' w',Grows μ w μ' w'∧HR E ρ μ' h' w'∧FR ρ μ' fr' a'∧fr'.fn=fr.fn∧fr'.rnd=fr.rnd∧fr'.nt=fr.nt ∧
   Arr P (lone (FrR b a (.code c::k)) cs w) b k cs e a' w'
section
variable {P : Program} {E : Env} {ρ : Rho} {μ : Mu}
theorem Res.of_Rs {w:World} {s:Sem Value} {v:V} {h':H} (h:Rs P E ρ μ w s v h') {t:Sem Next} (ht:∀X w',s.run P w=.ok X w'→t.run P w=.ok (.value X) w'):Res P E ρ μ w t [(v,h')]:=by
 obtain ⟨μ',X,w',g1,g2,g3,g4⟩:=h;exact fun c cs=>⟨v,h',aN.2 rfl,μ',X,w',g1,g2,g3,.inl (ht _ _ g4)⟩
theorem Res.of_Ru {w:World} {s:Sem Unit} {h':H} (h:Ru P E ρ μ w s h') {t:Sem Next} (ht:∀w',s.run P w=.ok () w'→t.run P w=.ok .skip w'):Res P E ρ μ w t [(un,h')]:=by
 obtain ⟨μ',w',g1,g2,g3⟩:=h;exact fun c cs=>⟨un,h',aN.2 rfl,μ',undef,w',g1,g2,by simp [un,conc,cE,undef],.inr (.inl ⟨ht _ g3,rfl⟩)⟩
theorem Res.of_val {h:H} {w:World} (hh:HR E ρ μ h w) {v:V} {X:Value} (hx:conc ρ μ v=some X) {t:Sem Next} (ht:t.run P w=.ok (.value X) w):Res P E ρ μ w t [(v,h)] :=
 fun c cs=>⟨v,h,aN.2 rfl,μ,X,w,Grows.refl _ _,hh,hx,.inl ht⟩
theorem Res.of_eq {w:World} {s s':Sem Next} {outs:List (V×H)} (h:Res P E ρ μ w s outs) (e:s'.run P w=s.run P w):Res P E ρ μ w s' outs:=by
 intro c cs;obtain ⟨v,h',hm,μ',X,w',g1,g2,g3,g4⟩:=h c cs;exact ⟨v,h',hm,μ',X,w',g1,g2,g3,g4.of_eq e⟩
theorem eN {h:H} {x:Option V} {outs:List (V×H)} (e:rv h x=some outs):∃v,x=some v∧outs=[(v,h)]:=by
 cases x with
 | none=>cases e
 | some v=>injection e with e;exact ⟨v,rfl,e.symm⟩
theorem vD {x:Option H} {outs:List (V×H)} (e:rh x=some outs):∃h,x=some h∧outs=[(un,h)]:=by
 cases x with
 | none=>cases e
 | some v=>injection e with e;exact ⟨v,rfl,e.symm⟩
theorem kQ {x:Option (V×H)} {outs:List (V×H)} (e:r1 x=some outs):∃v,x=some v∧outs=[v]:=by
 cases x with
 | none=>cases e
 | some v=>injection e with e;exact ⟨v,rfl,e.symm⟩
theorem cT {α:Type} {x:α} {outs:List α} (e:fQ x=some outs):outs=[x]:=by
 injection e with e;exact e.symm
theorem sO {fr:Fr} {a:Act} (k:FR ρ μ fr a) {x:Option Operand} {v:Option V} (h:mT fr x=some v):CO ρ μ v (x.map a.eval):=by
 cases x with
 | none=>simp [mT] at h;subst h;trivial
 | some x =>
  simp only [mT] at h;obtain ⟨u,hu,rfl⟩:=aR.1 h;obtain ⟨X,h1,h2⟩:=cJ k hu;simpa [CO,h2] using h1
end
section
variable {P : Program} {E : Env} {ρ : Rho} {μ : Mu} {ih : Rec}
theorem dm {s:Sem Value} {w w':World} {X:Value} (h:s.run P w=.ok X w'):(do pure (.value (←s)):Sem Next).run P w=.ok (.value X) w':=by
 simp [h]
theorem zR {s:Sem Unit} {w w':World} (h:s.run P w=.ok () w'):(do s;pure .skip:Sem Next).run P w=.ok .skip w':=by
 simp [h]
theorem pK (ok:RecOk P E ρ ih) {h:H} {w:World} (hh:HR E ρ μ h w) {f:V} {F:Value} {args:List V} {A:List Value} {outs:List (V×H)} (hv:lO ih h f args=some outs) (hf:conc ρ μ f=some F) (ha:cE ρ μ args=some A) :
  Res P E ρ μ w (do let d ←Deferred.ofValue F A.toArray;invoke d.target d.args) outs:=by
 unfold lO at hv
 split at hv
 ·rename_i g first cap;simp only [conc] at hf
  cases h1:cE ρ μ first with
  | none=>simp [h1] at hf
  | some F1 =>
   cases h2:cE ρ μ cap with
   | none=>simp [h1,h2] at hf
   | some C1 =>
    simp [h1,h2] at hf;subst hf;have:=ok.call _ _ _ _ hv μ w _ hh (ku (ku h1 ha) h2);refine this.of_eq ?_;simp [Deferred.ofValue,invoke]
 ·rename_i b;simp only [conc] at hf;obtain ⟨y,hy,rfl⟩:=aR.1 hf;have:=ok.yield _ _ _ _ hv μ w _ y hh hy ha;refine this.of_eq ?_;simp [Deferred.ofValue,invoke]
 ·cases hv
theorem CY (hE:EnvOk P E) {t:Nat} {ok:Bool} {x v:V} {X:Value} (hv:Az E t ok x=some v) (hx:conc ρ μ x=some X) (xT:TypeId):∃Y,conc ρ μ v=some Y∧∀w,(Instr.typeAssert X xT t ok).run P w=.ok Y w:=by
 unfold Az at hv
 split at hv
 ·cases hv
 ·rename_i i hi;obtain ⟨inf,z,vz,q1,hu,_⟩:=hE.ty hi;have hun:∀w,(underlying t).run P w=.ok i.desc w:=fun w=>run_underlying hu w;obtain ⟨Z,z1,z2,_,_⟩:=qn (P:=P) (ρ:=ρ) (μ:=μ) hE hi;have pairC:∀{u:V} {U:Value} {b:Bool},conc ρ μ u=some U→conc ρ μ (.tuple [u,.bool b])=some (.tuple #[U,.bool b]):=fun h=>by simp [conc,cE,h]
  split at hv
  ·cases hv
  ·rename_i t' y hni;simp only [conc] at hx
   split at hx
   ·rename_i Y0 hY;injection hx with hx;subst hx
    have key:∀w,(Instr.typeAssert (.iface t' Y0) xT t ok).run P w=(if t'=t then (pure (if ok then .tuple #[Y0,.bool true] else Y0):Sem Value) else (if ok then (do pure (.tuple #[←zeroValue t,.bool false])) else runtimePanic (.typeAssertion (some xT) (some t') t ""))).run P w:=fun w=>by
     unfold Instr.typeAssert;simp only [Sem.run_bind,hun,Result.andThen_ok]
     all_goals (cases hd:i.desc<;>first|exact absurd hd (hni _)|rfl)
    cases hb:Nat.beq t' t with
    | true =>
     rw [hb,cond_true] at hv;injection hv with hv;subst hv;have:=aS hb
     cases ok with
     | true=>exact ⟨_,pairC hY,fun w=>by rw [key,if_pos this];rfl⟩
     | false=>exact ⟨_,hY,fun w=>by rw [key,if_pos this];rfl⟩
    | false =>
     rw [hb,cond_false] at hv;have hne:t'≠t:=by rintro rfl;simp at hb
     cases ok with
     | false=>cases hv
     | true =>
      injection hv with hv;subst hv;exact ⟨_,pairC z2,fun w=>by rw [key,if_neg hne];simp [z1]⟩
   ·cases hx
  ·rename_i hni;simp only [conc] at hx;injection hx with hx;subst hx
   cases ok with
   | false=>cases hv
   | true =>
    injection hv with hv;subst hv;refine ⟨_,pairC z2,fun w=>?_⟩;unfold Instr.typeAssert;simp only [Sem.run_bind,hun,Result.andThen_ok]
    cases hd:i.desc<;>first|exact absurd hd (hni _)|simp [z1]
  ·cases hv
theorem Bf (hE:EnvOk P E) {t:Nat} {x v:V} {X:Value} (hv:pv E t x=some v) (hx:conc ρ μ x=some X):∃Y,conc ρ μ v=some Y∧∀w,(Instr.arrayAt t X).run P w=.ok Y w:=by
 unfold pv at hv
 split at hv
 ·cases hv
 ·rename_i i hi;obtain ⟨inf,z,vz,q1,hu,_⟩:=hE.ty hi;have hun:∀w,(underlying t).run P w=.ok i.desc w:=fun w=>run_underlying hu w
  split at hv
  ·rename_i n e b o m c hd
   split at hv
   ·cases hv
   ·rename_i m';obtain ⟨hle,hv⟩:=cI hv;have hle:=aZ hle;injection hv with hv;subst hv;simp only [conc] at hx;obtain ⟨y,hy,hx⟩:=Option.bind_eq_some_iff.1 hx
    have hX:∃cap,X=.slice (some ⟨y.1,o,none⟩) (m'+1) cap:=by
     cases c with
     | lit cc =>
      simp only [gg] at hx
      split at hx
      ·injection hx with hx;exact ⟨_,hx.symm⟩
      ·cases hx
     | opn e o' =>
      simp only [gg] at hx
      split at hx
      ·rename_i hh;rw [if_neg (by omega)] at hx;injection hx with hx;exact ⟨_,hx.symm⟩
      ·cases hx
    obtain ⟨cap,rfl⟩:=hX;refine ⟨.pointer (some ⟨y.1,o,none⟩),by simp [conc,hy],fun w=>?_⟩;unfold Instr.arrayAt;simp only [Sem.run_bind,hun,Result.andThen_ok,hd];rw [if_neg (by omega)]
    rfl
  ·cases hv
theorem yB (hE:EnvOk P E) (hp:Plain ρ) {h:H} {w:World} (hh:HR E ρ μ h w) {b:Builtin} {tys:Array TypeId} {ty:Nat} {consts:Array Bool} {args:List V} {A:List Value} {outs:List (V×H)}
  (hv:iP E h b tys.toList args=some outs) (ha:cE ρ μ args=some A):Res P E ρ μ w (builtin b tys ty consts A.toArray) outs:=by
 unfold iP at hv
 split at hv
 ·split at hv
  ·rename_i t r x ht;obtain ⟨v,h1,rfl⟩:=eN hv;obtain ⟨X,l,rfl,hx,hl⟩:=dQ ha;simp [cE] at hl;subst hl;have htys:tys[0]?=some t:=by rw [←Array.getElem?_toList,ht];rfl
   obtain ⟨Y,y1,y2⟩:=H4 (ty:=ty) hE hh htys h1 hx;exact Res.of_val hh y1 (dm y2)
  ·cases hv
 ·split at hv
  ·rename_i t t2 s x ht;obtain ⟨S,l,rfl,hs,hl⟩:=dQ ha;obtain ⟨X,l,rfl,hx,hl⟩:=dQ hl;simp [cE] at hl;subst hl;have htys:tys=#[t,t2]:=by apply Array.ext';exact ht
   subst htys
   split at hv
   ·rename_i i hi
    split at hv
    ·rename_i e hd;obtain ⟨v,h1,rfl⟩:=kQ hv;exact Res.of_Rs (uT (ty:=ty) hE hp hh hi (.inl ⟨e,hd⟩) h1 hs hx) (fun X w' h=>dm h)
    ·rename_i hd;obtain ⟨v,h1,rfl⟩:=kQ hv;exact Res.of_Rs (uT (ty:=ty) hE hp hh hi (.inr hd) h1 hs hx) (fun X w' h=>dm h)
    ·rename_i kn hd;obtain ⟨v,h1,rfl⟩:=kQ hv;exact Res.of_Rs (Bg (ty:=ty) hE hp hh hi hd h1 hs hx) (fun X w' h=>dm h)
    ·cases hv
   ·cases hv
  ·cases hv
 ·split at hv
  ·rename_i t r d s ht;obtain ⟨D,l,rfl,hd,hl⟩:=dQ ha;obtain ⟨S,l,rfl,hs,hl⟩:=dQ hl;simp [cE] at hl;subst hl;have htys:tys[0]?=some t:=by rw [←Array.getElem?_toList,ht];rfl
   obtain ⟨v,h1,rfl⟩:=kQ hv;exact Res.of_Rs (Gm (ty:=ty) hE hp hh htys h1 hd hs) (fun X w' h=>dm h)
  ·cases hv
 ·split at hv
  ·rename_i t r m k ht;obtain ⟨M,l,rfl,hm,hl⟩:=dQ ha;obtain ⟨K,l,rfl,hk,hl⟩:=dQ hl;simp [cE] at hl;subst hl;have htys:tys[0]?=some t:=by rw [←Array.getElem?_toList,ht];rfl
   obtain ⟨h',h1,rfl⟩:=vD hv;exact Res.of_Rs (Be (ty:=ty) hE hh htys h1 hm hk) (fun X w' h=>dm h)
  ·cases hv
 ·split at hv
  ·rename_i k x k' y;obtain rfl:=cT hv;obtain ⟨X,l,rfl,hx,hl⟩:=dQ ha;obtain ⟨Y,l,rfl,hy,hl⟩:=dQ hl;simp [cE] at hl;subst hl;simp only [conc] at hx hy;injection hx with hx;subst hx;injection hy with hy;subst hy;exact Res.of_val hh rfl (dm (w:=w) rfl)
  ·cases hv
 ·split at hv
  ·rename_i k x k' y;obtain rfl:=cT hv;obtain ⟨X,l,rfl,hx,hl⟩:=dQ ha;obtain ⟨Y,l,rfl,hy,hl⟩:=dQ hl;simp [cE] at hl;subst hl;simp only [conc] at hx hy;injection hx with hx;subst hx;injection hy with hy;subst hy;exact Res.of_val hh rfl (dm (w:=w) rfl)
  ·cases hv
 ·cases hv
theorem ul (hE:EnvOk P E) (hp:Plain ρ) (ok:RecOk P E ρ ih) {fr:Fr} {a:Act} (k:FR ρ μ fr a) {h:H} {w:World} (hh:HR E ρ μ h w) {o:Oper} {outs:List (V×H)} (hv:opV E ih fr h o=some outs) :
  Res P E ρ μ w (execOp a.eval o) outs:=by
 unfold opV at hv;unfold execOp
 split at hv
 ·obtain ⟨v,h1,rfl⟩:=eN hv;obtain ⟨X,x1,rfl⟩:=cJ k h1;rename_i x ho;simp only [ho];exact Res.of_val hh x1 rfl
 ·obtain ⟨v,h1,rfl⟩:=eN hv;obtain ⟨X,x1,rfl⟩:=cJ k h1;rename_i x ho;simp only [ho];exact Res.of_val hh x1 rfl
 ·rename_i c x y ho;simp only [ho]
  split at hv
  ·rename_i t hc;obtain ⟨C,c1,c2⟩:=cJ k hc;simp only [conc] at c1;injection c1 with c1;subst c1;obtain ⟨v,h1,rfl⟩:=eN hv
   cases t with
   | true =>
    simp only [cond_true] at h1;obtain ⟨X,x1,rfl⟩:=cJ k h1;exact Res.of_val hh x1 (by simp [c2,asBool])
   | false =>
    simp only [cond_false] at h1;obtain ⟨X,x1,rfl⟩:=cJ k h1;exact Res.of_val hh x1 (by simp [c2,asBool])
  ·cases hv
 ·rename_i t ho;simp only [ho]
  split at hv
  ·rename_i i hi;obtain rfl:=cT hv;exact Res.of_Rs (Gn hE hp hh hi) (fun X w' h=>dm h)
  ·cases hv
 ·rename_i t x ho;simp only [ho]
  split at hv
  ·rename_i v h1;obtain rfl:=cT hv;obtain ⟨X,x1,rfl⟩:=cJ k h1;exact Res.of_Rs (run_box hp hh x1) (fun X w' h=>dm h)
  ·cases hv
 ·rename_i t ps ho;simp only [ho]
  split at hv
  ·rename_i i vs hi hvs
   split at hv
   ·rename_i fs hd;obtain ⟨hall,hv⟩:=qT hv;simp only [Bool.not_eq_false'] at hall;obtain ⟨v,h1,rfl⟩:=eN hv;obtain ⟨out,h2,rfl⟩:=aR.1 h1;obtain ⟨X,x1,x2⟩:=wz hE hp k hi hvs (.inl ⟨fs,hd,hall,h2⟩);exact Res.of_val hh x1 (dm (x2 w))
   ·rename_i n e hd
    split at hv
    ·rename_i s hs;obtain ⟨v,h1,rfl⟩:=eN hv;obtain ⟨out,h2,rfl⟩:=aR.1 h1;obtain ⟨X,x1,x2⟩:=wz hE hp k hi hvs (.inr ⟨n,e,s,hd,hs,h2⟩);exact Res.of_val hh x1 (dm (x2 w))
    ·cases hv
   ·cases hv
  ·cases hv
 ·rename_i t n ps ho;simp only [ho]
  split at hv
  ·rename_i i vs hi hvs
   split at hv
   ·rename_i e hd
    split at hv
    ·rename_i ei hei;obtain ⟨hb,hv⟩:=cI hv;simp only [aU] at hb
     split at hv
     ·rename_i cs hcs;obtain rfl:=cT hv;exact Res.of_Rs (wy hE hp hh k hi hvs hd hei (aZ hb.1) hcs) (fun X w' h=>dm h)
     ·cases hv
    ·cases hv
   ·cases hv
  ·cases hv
 ·rename_i t x ho;simp only [ho]
  split at hv
  ·rename_i b off hx;obtain ⟨X,x1,x2⟩:=cJ k hx;obtain ⟨y,hy,rfl⟩:=gi x1;obtain ⟨v,h1,rfl⟩:=eN hv;obtain ⟨Y,y1,y2⟩:=yT hE hh h1 hy;rw [←x2] at y2;exact Res.of_val hh y1 (dm y2)
  ·rename_i g off hx;obtain ⟨X,x1,x2⟩:=cJ k hx;simp only [conc] at x1;injection x1 with x1;subst x1;obtain ⟨v,h1,rfl⟩:=eN hv;obtain ⟨Y,y1,y2⟩:=Gi hE hh h1;rw [←x2] at y2;exact Res.of_val hh y1 (dm y2)
  ·cases hv
 ·rename_i t x y ho;simp only [ho]
  split at hv
  ·rename_i b off v hx hy;obtain ⟨X,x1,x2⟩:=cJ k hx;obtain ⟨z,hz,rfl⟩:=gi x1;obtain ⟨Y,y1,y2⟩:=cJ k hy;obtain ⟨h',h1,rfl⟩:=vD hv;have:=CU hE hp hh h1 hz y1;rw [←x2,←y2] at this;exact Res.of_Ru this (fun w' h=>zR h)
  ·cases hv
 ·rename_i x ho;simp only [ho]
  split at hv
  ·rename_i b off hx;obtain rfl:=cT hv;obtain ⟨X,x1,x2⟩:=cJ k hx;obtain ⟨z,hz,rfl⟩:=gi x1;exact Res.of_val hh x1 (by rw [x2];rfl)
  ·rename_i b off hx;obtain rfl:=cT hv;obtain ⟨X,x1,x2⟩:=cJ k hx;have x1':=x1;simp only [conc] at x1';injection x1' with x1';subst x1';exact Res.of_val hh x1 (by rw [x2];rfl)
  ·rename_i f u v hx;obtain rfl:=cT hv;obtain ⟨X,x1,x2⟩:=cJ k hx;have x1':=x1;simp only [conc] at x1'
   split at x1'
   ·injection x1' with x1';subst x1';exact Res.of_val hh x1 (by rw [x2];rfl)
   ·cases x1'
  ·rename_i b hx;obtain rfl:=cT hv;obtain ⟨X,x1,x2⟩:=cJ k hx;have x1':=x1;simp only [conc] at x1';obtain ⟨z,hz,rfl⟩:=aR.1 x1';exact Res.of_val hh x1 (by rw [x2];rfl)
  ·rename_i t v hx;obtain rfl:=cT hv;obtain ⟨X,x1,x2⟩:=cJ k hx;obtain ⟨z,hz,rfl⟩:=jn x1;exact Res.of_val hh x1 (by rw [x2];rfl)
  ·cases hv
 ·rename_i op t x y yt ho;simp only [ho]
  split at hv
  ·rename_i u v hx hy;obtain ⟨X,x1,x2⟩:=cJ k hx;obtain ⟨Y,y1,y2⟩:=cJ k hy;obtain ⟨r,h1,rfl⟩:=eN hv;obtain ⟨Z,z1,z2⟩:=run_bin hE hh h1 x1 y1;rw [←x2,←y2] at z2;exact Res.of_val hh z1 (dm z2)
  ·cases hv
 ·rename_i op t x ho;simp only [ho]
  split at hv
  ·rename_i u hx;obtain ⟨X,x1,x2⟩:=cJ k hx;obtain ⟨r,h1,rfl⟩:=eN hv;obtain ⟨Z,z1,z2⟩:=run_un (P:=P) h1 x1;rw [←x2] at z2;exact Res.of_val hh z1 (dm (z2 w))
  ·cases hv
 ·rename_i s d x ho;simp only [ho]
  split at hv
  ·rename_i u hx;obtain ⟨X,x1,x2⟩:=cJ k hx;obtain ⟨v,h1,rfl⟩:=kQ hv;have:=H5 hE hh h1 x1;rw [←x2] at this;exact Res.of_Rs this (fun X w' h=>dm h)
  ·cases hv
 ·rename_i t x ho;simp only [ho]
  split at hv
  ·rename_i u i hx hi
   split at hv
   ·cases hv
   ·rename_i hd;obtain rfl:=cT hv;obtain ⟨X,x1,x2⟩:=cJ k hx;refine Res.of_val (X:=.iface t X) hh (by simp [conc,x1]) (dm ?_);rw [x2];have ui:=cR hE hi w;simp only [Instr.makeInterface,Sem.run_bind,ui,Result.andThen_ok]
    rfl
  ·cases hv
 ·rename_i fn first cap ho;simp only [ho]
  split at hv
  ·rename_i f u v hf hc;obtain rfl:=cT hv;have h1:=kE k hf;have h2:=kE k hc;refine Res.of_val (X:=.func (.func f) (first.map a.eval) (cap.map a.eval)) hh ?_ (dm (by simp [Instr.makeFunc]));have e1:(first.toList.map a.eval).toArray=first.map a.eval:=by apply Array.ext';simp
   have e2:(cap.toList.map a.eval).toArray=cap.map a.eval:=by apply Array.ext';simp
   simp only [conc,h1,h2,e1,e2]
  ·cases hv
 ·rename_i t r ho;simp only [ho]
  split at hv
  ·obtain rfl:=cT hv;exact Res.of_Rs (zW hh t) (fun X w' h=>dm h)
  ·cases hv
 ·rename_i t l c ho;simp only [ho]
  split at hv
  ·rename_i u v hx hy;obtain ⟨X,x1,rfl⟩:=cJ k hx;obtain ⟨Y,y1,rfl⟩:=cJ k hy;obtain ⟨v,h1,rfl⟩:=kQ hv;exact Res.of_Rs (ww hE hp hh h1 x1 y1) (fun X w' h=>dm h)
  ·cases hv
 ·rename_i t x lo hi mx ho;simp only [ho]
  split at hv
  ·rename_i u lo' hi' mx' hx hlo hhi hmx;obtain ⟨X,x1,rfl⟩:=cJ k hx;obtain ⟨v,h1,rfl⟩:=eN hv;obtain ⟨Y,y1,y2⟩:=Gg hE h1 x1 (sO k hlo) (sO k hhi) (sO k hmx);exact Res.of_val hh y1 (dm (y2 w))
  ·cases hv
 ·rename_i s x f ho;simp only [ho]
  split at hv
  ·rename_i u hx;obtain ⟨X,x1,rfl⟩:=cJ k hx;obtain ⟨v,h1,rfl⟩:=eN hv;obtain ⟨Y,y1,y2⟩:=yv hE h1 x1;exact Res.of_val hh y1 (dm (y2 w))
  ·cases hv
 ·rename_i s x f ho;simp only [ho]
  split at hv
  ·rename_i u hx;obtain ⟨X,x1,rfl⟩:=cJ k hx;obtain ⟨v,h1,rfl⟩:=eN hv;obtain ⟨Y,y1,y2⟩:=Gl hE h1 x1;exact Res.of_val hh y1 (dm (y2 w))
  ·cases hv
 ·rename_i t x i ho;simp only [ho]
  split at hv
  ·rename_i u j hx hi;obtain ⟨X,x1,rfl⟩:=cJ k hx;obtain ⟨I,i1,rfl⟩:=cJ k hi;obtain ⟨v,h1,rfl⟩:=eN hv;obtain ⟨Y,y1,y2⟩:=yu hE h1 x1 i1;exact Res.of_val hh y1 (dm (y2 w))
  ·cases hv
 ·rename_i t x i ho;simp only [ho]
  split at hv
  ·rename_i u j hx hi;obtain ⟨X,x1,rfl⟩:=cJ k hx;obtain ⟨I,i1,rfl⟩:=cJ k hi;obtain ⟨v,h1,rfl⟩:=eN hv;obtain ⟨Y,y1,y2⟩:=Gk hE h1 x1 i1;exact Res.of_val hh y1 (dm (y2 w))
  ·cases hv
 ·rename_i t m ky okk ho;simp only [ho]
  split at hv
  ·rename_i u j hx hi;obtain ⟨X,x1,rfl⟩:=cJ k hx;obtain ⟨I,i1,rfl⟩:=cJ k hi;obtain ⟨v,h1,rfl⟩:=eN hv;obtain ⟨Y,y1,y2⟩:=Bb hE hh h1 x1 i1;exact Res.of_val hh y1 (dm y2)
  ·cases hv
 ·rename_i t m ky v ho;simp only [ho]
  split at hv
  ·rename_i u j vv hx hi hvv;obtain ⟨X,x1,rfl⟩:=cJ k hx;obtain ⟨I,i1,rfl⟩:=cJ k hi;obtain ⟨Y,y1,rfl⟩:=cJ k hvv;obtain ⟨v,h1,rfl⟩:=vD hv;exact Res.of_Ru (wu hE hh h1 x1 i1 y1) (fun w' h=>zR h)
  ·cases hv
 ·rename_i t m ky v ho;simp only [ho]
  split at hv
  ·rename_i u j vv hx hi hvv;obtain ⟨X,x1,rfl⟩:=cJ k hx;obtain ⟨I,i1,rfl⟩:=cJ k hi;obtain ⟨Y,y1,rfl⟩:=cJ k hvv;obtain ⟨v,h1,rfl⟩:=vD hv;exact Res.of_Ru (wu hE hh h1 x1 i1 y1) (fun w' h=>zR h)
  ·cases hv
 ·rename_i t x ho;simp only [ho]
  split at hv
  ·rename_i u hx;obtain ⟨X,x1,rfl⟩:=cJ k hx;obtain ⟨v,h1,rfl⟩:=kQ hv;exact Res.of_Rs (CV hE hh h1 x1) (fun X w' h=>dm h)
  ·cases hv
 ·rename_i it s ho;simp only [ho]
  split at hv
  ·rename_i u hx;obtain ⟨X,x1,rfl⟩:=cJ k hx;obtain ⟨v,h',hm,h1⟩:=Gh (P:=P) (ty:=o.type) hh hv x1;intro c cs;obtain ⟨v2,h2,hm2,r⟩:=Res.of_Rs (t:=do pure (.value (←Instr.next (a.eval it) s o.type))) h1 (fun X w' h=>dm h) c cs;simp only [aN,Prod.mk.injEq] at hm2;obtain ⟨rfl,rfl⟩:=hm2;exact ⟨_,_,hm,r⟩
  ·cases hv
 ·rename_i it ho;simp only [ho]
  split at hv
  ·rename_i u hx;obtain ⟨X,x1,rfl⟩:=cJ k hx;obtain ⟨v,h1,rfl⟩:=eN hv;obtain ⟨Y,y1,y2⟩:=CW (P:=P) hh h1 x1;exact Res.of_val hh y1 (dm y2)
  ·cases hv
 ·rename_i t i ho;simp only [ho]
  split at hv
  ·rename_i vs hx;obtain ⟨X,x1,x2⟩:=cJ k hx;obtain ⟨v,h1,rfl⟩:=eN hv;simp only [conc] at x1
   split at x1
   ·rename_i l hl;injection x1 with x1;subst x1;rw [jO] at h1;obtain ⟨Y,y1,y2⟩:=fX hl h1;exact Res.of_val hh y2 (dm (by rw [x2];simp [Instr.extract,y1]))
   ·cases x1
  ·cases hv
 ·rename_i x xT t q ho;simp only [ho]
  split at hv
  ·rename_i v0 hx;obtain ⟨X,x1,x2⟩:=cJ k hx;obtain ⟨v,h1,rfl⟩:=eN hv;obtain ⟨Y,y1,y2⟩:=CY (P:=P) hE h1 x1 xT;exact Res.of_val hh y1 (dm (by rw [x2];exact y2 w))
  ·cases hv
 ·rename_i t x ho;simp only [ho]
  split at hv
  ·rename_i v0 hx;obtain ⟨X,x1,x2⟩:=cJ k hx;obtain ⟨v,h1,rfl⟩:=eN hv;obtain ⟨Y,y1,y2⟩:=Bf (P:=P) hE h1 x1;exact Res.of_val hh y1 (dm (by rw [x2];exact y2 w))
  ·cases hv
 ·rename_i c ho;simp only [ho]
  split at hv
  ·rename_i f args hc hargs;have hA:=kE k hargs
   split at hv
   ·rename_i fv hf;obtain ⟨F,f1,f2⟩:=cJ k hf;have:=pK ok hh hv f1 hA;refine this.of_eq ?_;have e1:(c.args.toList.map a.eval).toArray=c.args.map a.eval:=by apply Array.ext';simp
    simp only [resolve,hc,f2,e1]
   ·cases hv
  ·rename_i b args hc hargs;have hA:=kE k hargs;have e1:(c.args.toList.map a.eval).toArray=c.args.map a.eval:=by apply Array.ext';simp
   refine (yB (ty:=o.type) (consts:=c.args.map fun|.const _=>true|_=>false) hE hp hh hv hA).of_eq ?_;simp only [resolve,hc,Sem.run_bind,Sem.run_pure,Result.andThen_ok,invoke,e1]
   rfl
  ·rename_i r name args hc hargs;have hA:=kE k hargs
   split at hv
   ·rename_i t v hr;obtain ⟨R,r1,r2⟩:=cJ k hr;obtain ⟨z,hz,rfl⟩:=jn r1
    split at hv
    ·rename_i f hm;have:=ok.call _ _ _ _ hv μ w _ hh (eM hz hA);refine this.of_eq ?_;have hmm:=hE.meths _ _ _ hm z w
     have e1:#[z]++c.args.map a.eval=(z::c.args.toList.map a.eval).toArray:=by
      apply Array.ext';rw [Array.toList_append,Array.toList_map]
      rfl
     have e2:(#[Value.iface t z]++c.args.map a.eval)[0]?=some (.iface t z):=by
      rw [Array.getElem?_append_left (Nat.zero_lt_one)]
      rfl
     have e3:(#[Value.iface t z]++c.args.map a.eval).extract 1 (#[Value.iface t z]++c.args.map a.eval).size=c.args.map a.eval:=by
      apply Array.ext';simp [bT]
     have hprog:(program).run P w=.ok P w:=rfl;simp only [resolve,hc,Sem.run_bind,Sem.run_pure,Result.andThen_ok,invoke,r2,e2,e3,callMethod,hprog,hmm,e1]
    ·cases hv
   ·cases hv
  ·cases hv
 ·cases hv
end
theorem qt {α β:Type} {f:α→R β}:∀{l:List α} {outs:List β},j9 f l=some outs→∀x∈l,∃o,f x=some o∧∀y∈o,y∈outs
 | [],_,_,x,hx=>by cases hx
 | z::r,outs,h,x,hx=>by
  simp only [j9] at h
  cases hz:f z with
  | none=>simp [hz] at h
  | some a =>
   cases hr:j9 f r with
   | none=>simp [hz,hr] at h
   | some b =>
    simp [hz,hr] at h;subst h
    rcases aW.1 hx with rfl|hx
    ·exact ⟨a,hz,fun y hy=>List.mem_append_left _ hy⟩
    ·obtain ⟨o,h1,h2⟩:=qt hr x hx;exact ⟨o,h1,fun y hy=>List.mem_append_right _ (h2 y hy)⟩
theorem gA {α β:Type} {r:R α} {f:α→R β} {outs:List β} (h:ji r f=some outs):∃l,r=some l∧∀x∈l,∃o,f x=some o∧∀y∈o,y∈outs:=by
 cases r with
 | none=>cases h
 | some l =>
  refine ⟨l,rfl,?_⟩;unfold ji at h
  split at h
  ·cases h
  ·rename_i l' e;injection e with e;subst e
   split at h
   ·rename_i x;intro y hy;rw [aN] at hy;subst hy;exact ⟨outs,h,fun _ h=>h⟩
   ·exact qt h
section moves
variable {P : Program} {b : Fb} {a : Act} {k : List Item} {cs : List Frame} {w : World} {ops : Array Oper}
theorem CF (x:Operand) (todo:List Item):(FrR b a todo).eval x=a.eval x:=by cases x<;>rfl
theorem Hy (todo:List Item):(FrR b a todo).eval=a.eval:=funext fun x=>CF x todo
theorem st_skip:step P (lone (FrR b a (.code .skip::k)) cs w)=.next (lone (FrR b a k) cs w):=step_lone_go (by simp [stepG,stepG.exec,FrR])
theorem HY {l:Nat}:step P (lone (FrR b a (.code (.label l)::k)) cs w)=.next (lone (FrR b a k) cs w):=step_lone_go (by simp [stepG,stepG.exec,FrR])
theorem CP {id:Nat}:step P (lone (FrR b a (.inBlock id::k)) cs w)=.next (lone (FrR b a k) cs w):=step_lone_go (by simp [stepG,stepG.exec,FrR])
theorem CN {c:Code}:step P (lone (FrR b a (.inScope c::k)) cs w)=.next (lone (FrR b a k) cs w):=step_lone_go (by simp [stepG,stepG.exec,FrR])
theorem CM {x y:Code}:step P (lone (FrR b a (.code (.seq x y)::k)) cs w)=.next (lone (FrR b a (.code x::.code y::k)) cs w):=step_lone_go (by simp [stepG,stepG.exec,FrR])
theorem D3 {c:Operand} {x y:Code} {t:Bool} (h:a.eval c=.bool t):step P (lone (FrR b a (.code (.cond c x y)::k)) cs w)=.next (lone (FrR b a (.code (if t then x else y)::k)) cs w) :=
 step_lone_go (by
  have:=CF (b:=b) (a:=a) c (.code (.cond c x y)::k);simp only [FrR] at this
  simp [stepG,stepG.exec,FrR,this,h])
theorem tv {id:Nat} {c:Code}:step P (lone (FrR b a (.code (.block id c)::k)) cs w)=.next (lone (FrR b a (.code c::.inBlock id::k)) cs w):=step_lone_go (by simp [stepG,stepG.exec,FrR])
theorem vA {c:Code}:step P (lone (FrR b a (.code (.loop c)::k)) cs w)=.next (lone (FrR b a (.code c::.inLoop c::k)) cs w):=step_lone_go (by simp [stepG,stepG.exec,FrR])
theorem FV {c:Code}:step P (lone (FrR b a (.inLoop c::k)) cs w)=.next (lone (FrR b a (.code c::.inLoop c::k)) cs w):=step_lone_go (by simp [stepG,stepG.exec,FrR])
theorem we {c:Code}:step P (lone (FrR b a (.code (.scope c)::k)) cs w)=.next (lone (FrR b a (.code c::.inScope c::k)) cs w):=step_lone_go (by simp [stepG,stepG.exec,FrR])
theorem st_exit {id:Nat} {k':List Item} (h:exitTo id k=some k'):step P (lone (FrR b a (.code (.exit id)::k)) cs w)=.next (lone (FrR b a k') cs w):=step_lone_go (by simp [stepG,stepG.exec,FrR,h])
theorem FU {id:Nat}:step P (lone (FrR b a (.code (.region id ops false)::k)) cs w)=.next (lone (FrR b a (.inRegion ops (List.range ops.size)::k)) cs w):=step_lone_go (by simp [stepG,stepG.exec,FrR])
theorem wg {id:Nat}:step P (lone (FrR b a (.code (.region id ops true)::k)) cs w) =
  .next (lone (FrR b a (.inRegion ops (Region.schedule (P.follows .mixedOrders) ops (w.tape w.drawn (.order b.fn id)))::k)) cs w.drew) :=
 step_lone_go (by simp [stepG,stepG.exec,FrR,choose,Sem.run,Question.forced,Question.cut])
theorem oC:step P (lone (FrR b a (.inRegion ops []::k)) cs w)=.next (lone (FrR b a k) cs w):=step_lone_go (by simp [stepG,stepG.exec,FrR])
theorem yn (i:Nat) (rest:List Nat) (v:Value):(FrR b a (.inRegion ops (i::rest)::k)).finish v=FrR b (a.put ((ops[i]?).bind (·.dst)) v) (.inRegion ops rest::k):=by
 simp only [FrR,Frame.finish]
 cases (ops[i]?).bind (·.dst)<;>rfl
theorem sy {i:Nat} {rest:List Nat} (h:((ops[i]?).map (Region.wanted · (yielded ops a.tmps))).getD false=false) :
  step P (lone (FrR b a (.inRegion ops (i::rest)::k)) cs w)=.next (lone (FrR b (a.put ((ops[i]?).bind (·.dst)) undef) (.inRegion ops rest::k)) cs w):=by
 rw [←yn]
 exact step_lone_go (by
  have h':=h;simp only [FrR] at *
  simp [stepG,stepG.exec,h'])
theorem stG_op {i:Nat} {rest:List Nat} {o:Oper} (ho:ops[i]?=some o) (hw:Region.wanted o (yielded ops a.tmps)=true) (hd:∀c,o.op≠.defer c) :
  stepG P true {frame:=FrR b a (.inRegion ops (i::rest)::k),callers:=cs,status:=.running,dying:=none} w =
   stepG.apply P true (FrR b a (.inRegion ops (i::rest)::k)) cs none (execOp a.eval o) w:=by
 have he:=Hy (b:=b) (a:=a) (.inRegion ops (i::rest)::k);simp only [FrR] at he;simp only [stepG,stepG.exec,FrR,ho,bo,hw,Option.getD_some,if_true,stepG.oper,Frame.oper?,he]
 split
 ·rename_i l c h1 h2;exact absurd h2 (hd c)
 ·rfl
theorem uE {i:Nat} {rest:List Nat} {o:Oper} (ho:ops[i]?=some o) (hw:Region.wanted o (yielded ops a.tmps)=true) (hd:∀c,o.op≠.defer c) {X:Value} {w':World} (h:DT P (FrR b a (.inRegion ops (i::rest)::k)) cs (execOp a.eval o) w X w') :
  Steps P (lone (FrR b a (.inRegion ops (i::rest)::k)) cs w) (lone (FrR b (a.put o.dst X) (.inRegion ops rest::k)) cs w'):=by
 have hg:=stG_op (P:=P) (b:=b) (k:=k) (cs:=cs) (w:=w) (rest:=rest) ho hw hd;have hfin:(FrR b a (.inRegion ops (i::rest)::k)).finish X=FrR b (a.put o.dst X) (.inRegion ops rest::k):=by rw [yn,ho];rfl
 rcases h with hr|⟨hr,rfl⟩|⟨f,args,w1,hr,hl⟩|⟨l,f,tmps,asg,body,w1,hr,hl⟩
 ·refine .one (step_lone_go ?_);rw [hg,←hfin];simp [stepG.apply,hr]
 ·refine .one (step_lone_go ?_);rw [hg,←hfin];simp [stepG.apply,hr]
 ·have henter:step P (lone (FrR b a (.inRegion ops (i::rest)::k)) cs w)=.next (lone (Frame.enter P f args .normal) (FrR b a (.inRegion ops (i::rest)::k)::cs) w1) :=
   step_lone_go (by rw [hg];simp [stepG.apply,hr,FrR])
  rw [←hfin];exact .head henter hl
 ·have henter:step P (lone (FrR b a (.inRegion ops (i::rest)::k)) cs w)=.next (lone (Frame.round l f tmps asg body .normal) (FrR b a (.inRegion ops (i::rest)::k)::cs) w1) :=
   step_lone_go (by rw [hg];simp [stepG.apply,hr,FrR])
  rw [←hfin];exact .head henter hl
end moves
section
variable {P : Program} {E : Env} {ρ : Rho} {μ : Mu} {ih : Rec}
theorem um {fr:Fr} {h:H} {o:Oper} {outs:List (V×H)} (hv:opV E ih fr h o=some outs) (c:Call):o.op≠.defer c:=by
 intro e;unfold opV at hv;rw [e] at hv;cases hv
theorem jq {fr:Fr} {a:Act} (k:FR ρ μ fr a) {ops:Array Oper} {o:Oper} {r:Bool} (h:dS fr ops.toList o=some r):Region.wanted o (yielded ops a.tmps)=r:=by
 unfold dS at h;unfold Region.wanted
 split at h
 ·rename_i hg;injection h with h;subst h;rw [hg]
 ·rename_i j want hg;rw [hg];simp only;rw [jO] at h
  split at h
  ·rename_i g hj;have hj':ops[j]?=some g:=by rw [←Array.getElem?_toList];exact hj
   split at h
   ·rename_i d hd
    split at h
    ·rename_i bb ht;injection h with h;subst h;obtain ⟨X,x1,x2⟩:=k.tmps _ _ ht;simp only [conc] at x1;injection x1 with x1;subst x1;simp [yielded,hj',hd,x2]
    ·rename_i ht;injection h with h;subst h;obtain ⟨X,x1,x2⟩:=k.tmps _ _ ht;simp [conc,cE] at x1;subst x1;simp [yielded,hj',hd,x2]
    ·cases h
   ·cases h
  ·cases h
theorem FR.put_undef {fr fr':Fr} {a:Act} {dst:Option Nat} (k:FR ρ μ fr a) (h:fr.put dst un=some fr'):FR ρ μ fr' (a.put dst undef) :=
 k.put h (by simp [un,conc,cE,undef])
theorem sM (hE:EnvOk P E) (hp:Plain ρ) (ok:RecOk P E ρ ih) {ops:Array Oper}:∀(rest:List Oper) (i:Nat),ops.toList.drop i=rest→∀(fr:Fr) (h:H) (outs:List (Fr×H)),tF E ih ops.toList rest fr h=some outs →
  ∀(μ:Mu) (a:Act) (w:World) (b:Fb),HR E ρ μ h w→FR ρ μ fr a→∀(k:List Item) (cs:List Frame),
  ∃fr' h',(fr',h')∈outs∧∃μ' a' w',Grows μ w μ' w'∧HR E ρ μ' h' w'∧FR ρ μ' fr' a'∧fr'.fn=fr.fn∧fr'.rnd=fr.rnd∧fr'.nt=fr.nt ∧
   Steps P (lone (FrR b a (.inRegion ops (List.range' i rest.length)::k)) cs w) (lone (FrR b a' k) cs w')
 | [],i,hd,fr,h,outs,hv,μ,a,w,b,hh,hf,k,cs=>by
  injection hv with hv;subst hv;exact ⟨fr,h,aN.2 rfl,μ,a,w,Grows.refl _ _,hh,hf,rfl,rfl,rfl,.one oC⟩
 | o::r,i,hd,fr,h,outs,hv,μ,a,w,b,hh,hf,k,cs=>by
  have ho:ops[i]?=some o:=by
   have:(ops.toList.drop i)[0]?=some o:=by rw [hd];rfl
   simpa using this
  have hd':ops.toList.drop (i+1)=r:=by
   rw [←List.drop_drop,hd];rfl
  simp only [aO,List.range'_succ];simp only [tF] at hv
  split at hv
  ·cases hv
  ·rename_i hw
   split at hv
   ·rename_i fr1 hput;obtain ⟨fr',h',hm,μ',a',w',g1,g2,g3,g4,g5,g6,g7⟩:=sM hE hp ok r (i+1) hd' fr1 h outs hv μ (a.put o.dst undef) w b hh (hf.put_undef hput) k cs;obtain ⟨p1,p2,p3,p4⟩:=Fr.put_same hput;refine ⟨fr',h',hm,μ',a',w',g1,g2,g3,g4.trans p3,g5.trans p4,g6.trans p1,.head ?_ g7⟩;have:=sy (P:=P) (b:=b) (a:=a) (k:=k) (cs:=cs) (w:=w) (ops:=ops) (i:=i) (rest:=List.range' (i+1) r.length) (by rw [ho];simpa using jq hf hw)
    rw [ho] at this;exact this
   ·cases hv
  ·rename_i hw;obtain ⟨l,hl,hcont⟩:=gA hv;obtain ⟨v,h1,hm,μ1,X,w1,q1,q2,q3,q4⟩:=ul hE hp ok hf hh hl (FrR b a (.inRegion ops (i::List.range' (i+1) r.length)::k)) cs;obtain ⟨o1,hc,hsub⟩:=hcont _ hm;simp only at hc
   split at hc
   ·rename_i fr1 hput;obtain ⟨fr',h',hm',μ',a',w',g1,g2,g3,g4,g5,g6,g7⟩:=sM hE hp ok r (i+1) hd' fr1 h1 o1 hc μ1 (a.put o.dst X) w1 b q2 ((hf.le q1.le).put hput q3) k cs;obtain ⟨p1,p2,p3,p4⟩:=Fr.put_same hput;exact ⟨fr',h',hsub _ hm',μ',a',w',q1.trans g1,g2,g3,g4.trans p3,g5.trans p4,g6.trans p1,(uE ho (jq hf hw) (um hl) q4).trans g7⟩
   ·cases hc
end
end Go.Ev
