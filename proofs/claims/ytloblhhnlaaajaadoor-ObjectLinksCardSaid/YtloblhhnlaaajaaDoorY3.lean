/- Cells read and written; new blocks. -/
import Derived.Test.YtloblhhnlaaajaaDoorY2
import Derived.Deep.Upon
import Derived.Lib.AppendZerosOnto
set_option linter.unusedVariables false
set_option linter.unusedSimpArgs false
set_option linter.defProp false
namespace Go.Ev
open Go
section
variable {P : Program} {E : Env} {ρ : Rho} {μ : Mu}
def Rs (P:Program) (E:Env) (ρ:Rho) (μ:Mu) (w:World) (s:Sem Value) (v:V) (h':H):Prop :=
 ∃μ' X w',Grows μ w μ' w'∧HR E ρ μ' h' w'∧conc ρ μ' v=some X∧s.run P w=.ok X w'
def Ru (P:Program) (E:Env) (ρ:Rho) (μ:Mu) (w:World) (s:Sem Unit) (h':H):Prop :=
 ∃μ' w',Grows μ w μ' w'∧HR E ρ μ' h' w'∧s.run P w=.ok () w'
theorem Fp {h:H} {w:World} (hh:HR E ρ μ h w) {b:Nat} {t:T V} {n:Nat} {d:List V} {e k:Nat} (hb:h.t.get b=some (.cells t n d e k)) {x:Nat×Nat} (hx:μ b=some x) {j:Nat} {v:V}
  (hc:eH t n d j=some v):∃X,conc ρ μ v=some X∧w.cell? ⟨x.1,j,none⟩=some X:=by
 obtain ⟨y,o,h1,h2,h3⟩:=hh.blk b _ hb;rw [hx] at h1;injection h1 with h1;subst h1
 cases h3 with
 | cells hc' hn h0 ho hf hf2 =>
  obtain ⟨X,e1,e2⟩:=hc' j v hc;exact ⟨X,e1,by simp [World.cell?,h2,e2]⟩
theorem jK {h:H} {w:World} (hh:HR E ρ μ h w) {b:Nat} {t:T V} {n:Nat} {d:List V} {e k:Nat} (hb:h.t.get b=some (.cells t n d e k)) {x:Nat×Nat} (hx:μ b=some x) :
  ∀{i m:Nat} {vs:List V},dT t n d i m=some vs→∃L,cE ρ μ vs=some L∧L.length=m∧∀(j:Nat) X,L[j]?=some X→w.cell? ⟨x.1,i+j,none⟩=some X
 | i,0,vs,hc=>by simp [dT] at hc;subst hc;exact ⟨[],by simp [cE],rfl,fun j X h=>by simp at h⟩
 | i,m+1,vs,hc=>by
  simp only [dT] at hc
  cases hv:eH t n d i with
  | none=>simp [hv] at hc
  | some v =>
   cases hr:dT t n d (Nat.succ i) m with
   | none=>simp [hv,hr] at hc
   | some r =>
    simp [hv,hr] at hc;subst hc;obtain ⟨X,e1,e2⟩:=Fp hh hb hx hv;obtain ⟨L,l1,l2,l3⟩:=jK hh hb hx hr;refine ⟨X::L,eM e1 l1,by simp [l2],fun j Y hj=>?_⟩
    cases j with
    | zero=>simp at hj;subst hj;simpa using e2
    | succ j =>
     have:=l3 j Y (by simpa using hj);rw [show i+(j+1)=Nat.succ i+j by omega];exact this
theorem mt {x o:Nat} {w:World} {L:List Value} (h:∀(j:Nat) X,L[j]?=some X→w.cell? ⟨x,o+j,none⟩=some X) {m:Nat} (hm:L.length=m):(loadCells ⟨x,o,none⟩ m).run P w=.ok L.toArray w:=by
 subst hm;exact run_loadCells_list w _ L (fun j v hj=>by rw [Addr.add_lit];exact h j v hj)
theorem tM {h:H} {w:World} (hh:HR E ρ μ h w) {g o k:Nat} {cs vs:List V} (hg:E.globs.get g=some cs) (hv:qE k ((cs.drop o).take k)=some vs) :
  ∃L,cE ρ μ vs=some L∧L.length=k∧∀(j:Nat) X,L[j]?=some X→w.cell? ⟨g,o+j,none⟩=some X:=by
 unfold qE at hv;obtain ⟨hb,hv⟩:=cI hv;injection hv with hv;subst hv;simp only [aU] at hb;have hl:=aS hb.1;obtain ⟨⟨arr,e,fz,h1,h2⟩,_⟩:=hh.cn g cs hg
 have key:∀(l:List V) (o:Nat),(∀(j:Nat) v,l[j]?=some v→cs[o+j]?=some v∧v.one=true)→∃L,cE ρ μ l=some L∧L.length=l.length∧∀(j:Nat) X,L[j]?=some X→w.cell? ⟨g,o+j,none⟩=some X:=by
  intro l
  induction l with
  | nil=>intro o _;exact ⟨[],by simp [cE],rfl,fun j X hj=>by simp at hj⟩
  | cons v r ih =>
   intro o hr;obtain ⟨q1,q2⟩:=hr 0 v rfl;obtain ⟨X,x1,x2⟩:=h2 _ _ q1 q2
   obtain ⟨L,l1,l2,l3⟩:=ih (o+1) (fun j u hu=>by
    have:=hr (j+1) u (by simpa using hu)
    rw [show o+1+j=o+(j+1) by omega];exact this)
   refine ⟨X::L,eM (eY (fun b x e=>by cases e) _ _ x1) l1,by simp [l2],fun j Y hj=>?_⟩
   cases j with
   | zero=>simp at hj;subst hj;simpa [World.cell?,h1] using x2
   | succ j =>
    have:=l3 j Y (by simpa using hj);rw [show o+(j+1)=o+1+j by omega];exact this
 obtain ⟨L,l1,l2,l3⟩:=key ((cs.drop o).take k) o (fun j v hj=>by
  refine ⟨?_,bH.1 hb.2 _ (bR hj)⟩;rw [List.getElem?_take] at hj
  split at hj
  ·simpa using hj
  ·cases hj)
 exact ⟨L,l1,by rw [l2,hl],l3⟩
theorem uO {h:H} {w:World} (hh:HR E ρ μ h w) {a:Addr} {k:Nat} {vs:List V} (hv:lG E a k=some vs) :
  ∃L,cE ρ μ vs=some L∧L.length=k∧(loadCells a k).run P w=.ok L.toArray w:=by
 unfold lG at hv
 split at hv
 ·injection hv with hv;subst hv;exact ⟨[],by simp [cE],rfl,by simp [loadCells,loadCellsFrom]⟩
 ·rename_i hk;obtain ⟨g,o,sp⟩:=a
  cases sp with
  | some sp=>cases hv
  | none =>
   simp only at hv
   split at hv
   ·rename_i cs hg;obtain ⟨L,l1,l2,l3⟩:=tM hh hg hv;exact ⟨L,l1,l2,mt l3 l2⟩
   ·cases hv
theorem yT (hE:EnvOk P E) {h:H} {w:World} (hh:HR E ρ μ h w) {ty b o:Nat} {v:V} (hv:p6 E h ty b o=some v) {x:Nat×Nat} (hx:μ b=some x) :
  ∃X,conc ρ μ v=some X∧(Instr.loadAt ty (.pointer (some ⟨x.1,o,none⟩))).run P w=.ok X w:=by
 unfold p6 at hv
 split at hv
 ·cases hv
 ·rename_i i hi
  split at hv
  ·rename_i t n d e k hb
   cases hg:i.agg with
   | true =>
    simp only [hg,cond_true] at hv;obtain ⟨vs,h1,rfl⟩:=aR.1 hv;obtain ⟨L,l1,l2,l3⟩:=jK hh hb hx h1;refine ⟨.agg L.toArray,by simp [conc,l1],?_⟩;simp [Instr.loadAt,Instr.sureAddr,loadVar,rc hE hi w,hg,gO hE hi w,mt l3 l2]
   | false =>
    simp only [hg,cond_false] at hv;obtain ⟨X,e1,e2⟩:=Fp hh hb hx hv;refine ⟨X,e1,?_⟩;simp [Instr.loadAt,Instr.sureAddr,loadVar,rc hE hi w,hg,e2]
  ·cases hv
theorem Gi (hE:EnvOk P E) {h:H} {w:World} (hh:HR E ρ μ h w) {ty g o:Nat} {v:V} (hv:rX E ty g o=some v) :
  ∃X,conc ρ μ v=some X∧(Instr.loadAt ty (.pointer (some ⟨g,o,none⟩))).run P w=.ok X w:=by
 unfold rX at hv
 split at hv
 ·cases hv
 ·rename_i i hi
  split at hv
  ·rename_i cs hg'
   cases hg:i.agg with
   | true =>
    simp only [hg,cond_true] at hv;obtain ⟨vs,h1,rfl⟩:=aR.1 hv;obtain ⟨L,l1,l2,l3⟩:=tM hh hg' h1;refine ⟨.agg L.toArray,by simp [conc,l1],?_⟩;simp [Instr.loadAt,Instr.sureAddr,loadVar,rc hE hi w,hg,gO hE hi w,mt l3 l2]
   | false =>
    simp only [hg,cond_false] at hv;rw [jO] at hv
    split at hv
    ·rename_i u hu;obtain ⟨h1,h2⟩:=cI hv;injection h2 with h2;subst h2;obtain ⟨⟨arr,e,fz,h3,h4⟩,_⟩:=hh.cn g cs hg';obtain ⟨X,x1,x2⟩:=h4 _ _ hu h1;refine ⟨X,eY (fun b x h=>by cases h) _ _ x1,?_⟩;simp [Instr.loadAt,Instr.sureAddr,loadVar,rc hE hi w,hg,World.cell?,h3,x2]
    ·cases hv
  ·cases hv
def World.at_ (w:World) (b:Nat) (o:Obj):World:={w with heap:=w.heap.setIfInBounds b o}
theorem mc {w:World} {b:Nat} {o:Obj} (h:b<w.heap.size):(World.at_ w b o).heap[b]?=some o:=by simp [World.at_,h]
theorem gj {w:World} {b g:Nat} {o:Obj} (h:g≠b):(World.at_ w b o).heap[g]?=w.heap[g]?:=by simp [World.at_,Array.getElem?_setIfInBounds_ne (Ne.symm h)]
theorem io {w:World} {b:Nat} {o:Obj}:(World.at_ w b o).heap.size=w.heap.size:=by simp [World.at_]
theorem at_at {w:World} {b:Nat} {o o':Obj}:World.at_ (World.at_ w b o) b o'=World.at_ w b o':=by
 simp [World.at_]
theorem Fv {w:World} {b:Nat} {o:Obj} (h:w.heap[b]?=some o):World.at_ w b o=w:=by
 have:w.heap.setIfInBounds b o=w.heap:=by
  apply Array.ext';simp
  have hb:b<w.heap.size:=by
   rcases Nat.lt_or_ge b w.heap.size with h'|h'
   ·exact h'
   ·rw [Array.getElem?_eq_none h'] at h;cases h
  rw [Array.getElem?_eq_getElem hb] at h;injection h with h;subst h;apply List.set_getElem_self
 cases w
 simp only [World.at_] at *;rw [this]
theorem gf {α:Type} {a:Array α} {i:Nat} {x:α} (h:a[i]?=some x):i<a.size:=by
 rcases Nat.lt_or_ge i a.size with h'|h'
 ·exact h'
 ·rw [Array.getElem?_eq_none h'] at h;cases h
theorem wp {w:World} {b o:Nat} {arr:Array Value} {e:Nat} {fz:Nat×Nat} {v:Value} (h:w.heap[b]?=some (.cells arr e fz)) :
  w.setCell ⟨b,o,none⟩ v=World.at_ w b (.cells (arr.setIfInBounds o v) e fz):=by
 have hb:=gf h;simp only [World.setCell,World.at_]
 congr 1
 apply Array.ext_getElem?;intro i
 by_cases hi:i=b
 ·subst hi;rw [Array.getElem?_modify,h];simp [hb]
 ·rw [Array.getElem?_modify,if_neg (Ne.symm hi),Array.getElem?_setIfInBounds_ne (Ne.symm hi)]
def oD (arr:Array Value) (o:Nat) (vs:List Value):Array Value:=(arr.toList.take o++vs++arr.toList.drop (o+vs.length)).toArray
theorem CR (arr:Array Value) (o:Nat):oD arr o []=arr:=by simp [oD]
theorem jg {arr:Array Value} {o:Nat} {vs:List Value} (h:o+vs.length≤arr.size):(oD arr o vs).size=arr.size:=by
 simp [oD];omega
theorem pC {arr:Array Value} {o:Nat} {vs:List Value} (h:o+vs.length≤arr.size) (j:Nat) :
  (oD arr o vs)[j]?=if o≤j∧j<o+vs.length then vs[j - o]? else arr[j]?:=by
 simp only [oD,List.getElem?_toArray];have hl:(arr.toList.take o).length=o:=by simp;omega
 by_cases h1:j<o
 ·rw [if_neg (by omega),bV,List.getElem?_append_left (by omega),List.getElem?_take,if_pos h1];simp
 ·by_cases h2:j<o+vs.length
  ·rw [if_pos ⟨by omega,h2⟩,bV,List.getElem?_append_right (by omega),hl,List.getElem?_append_left (by omega)]
  ·rw [if_neg (by omega),List.getElem?_append_right (by simp [hl];omega)];simp only [aQ,hl,List.getElem?_drop];rw [show o+vs.length+(j - (o+vs.length))=j by omega];simp
theorem A4 {arr:Array Value} {o:Nat} {v:Value} {vs:List Value} (h:o+(vs.length+1)≤arr.size):oD (arr.setIfInBounds o v) (o+1) vs=oD arr o (v::vs):=by
 apply Array.ext_getElem?;intro j;rw [pC (by simp;omega),pC (by simpa using h)];simp only [aO]
 by_cases h1:j=o
 ·subst h1;rw [if_neg (by omega),if_pos (by omega)];have:j<arr.size:=by omega
  simp [this]
 ·by_cases h2:o≤j∧j<o+(vs.length+1)
  ·rw [if_pos (by omega),if_pos h2];rw [show j - o=(j - (o+1))+1 by omega];simp
  ·rw [if_neg (by omega),if_neg h2,Array.getElem?_setIfInBounds_ne (by omega)]
theorem mQ:∀(vs:List Value) (w:World) (b o i:Nat) (arr:Array Value) (e:Nat) (fz:Nat×Nat),w.heap[b]?=some (.cells arr e fz)→o+i+vs.length≤arr.size →
  (∀j,o+i≤j→j<o+i+vs.length→¬(fz.1≤j∧j<fz.2))→(∀v∈vs,(∀cs,v≠.agg cs)∧∀us,v≠.tuple us) →
  (storeCells ⟨b,o,none⟩ vs i).run P w=.ok () (World.at_ w b (.cells (oD arr (o+i) vs) e fz))
 | [],w,b,o,i,arr,e,fz,hb,_,_,_=>by
  rw [CR,Fv hb];rfl
 | v::vs,w,b,o,i,arr,e,fz,hb,hs,hf,hone=>by
  simp only [aO] at hs hf;have hlt:o+i<arr.size:=by omega
  have hcell:w.cell? ⟨b,o+i,none⟩=some arr[o+i]:=by simp [World.cell?,hb,hlt]
  have hfr:w.frozen? ⟨b,o+i,none⟩=false:=by
   have:=hf (o+i) (aI _) (by omega);simp [World.frozen?,hb];omega
  obtain ⟨n1,n2⟩:=hone v (by simp)
  have hst:(store ⟨b,o+i,none⟩ v).run P w=.ok () (w.setCell ⟨b,o+i,none⟩ v):=by
   cases v<;>first|exact absurd rfl (n1 _)|exact absurd rfl (n2 _)|simp [store,Sem.run,hcell,hfr]
  have ih:=mQ vs (w.setCell ⟨b,o+i,none⟩ v) b o (i+1) (arr.setIfInBounds (o+i) v) e fz
   (by rw [wp hb];exact mc (gf hb)) (by simp;omega) (fun j h1 h2=>hf j (by omega) (by omega)) (fun u hu=>hone u (by simp [hu]))
  simp only [storeCells,Addr.add_lit,Sem.run_bind,hst,Result.andThen_ok,ih];rw [wp hb,at_at,←Nat.add_assoc,A4 (by omega)]
theorem jo {t:T V} {n:Nat} {d:List V} {o:Nat} {vs:List V} (h:o+vs.length≤n) (j:Nat) :
  eH (T.putL t o vs) n d j=if o≤j∧j<o+vs.length then vs[j - o]? else eH t n d j:=by
 unfold eH;rw [T.get_putL]
 by_cases h1:o≤j∧j<o+vs.length
 ·rw [if_pos h1,if_pos h1];have:Nat.blt j n=true:=by have:=h1.2;simp;omega
  have hl:j - o<vs.length:=by omega
  rw [this,List.getElem?_eq_getElem hl]
  rfl
 ·rw [if_neg h1,if_neg h1]
theorem lM (hp:Plain ρ) {h h':H} {w:World} (hh:HR E ρ μ h w) {b o:Nat} {vs:List V} {L:List Value} (hs:gZ h b o vs=some h') {x:Nat×Nat} (hx:μ b=some x) (hv:cE ρ μ vs=some L) :
  ∃w',Grows μ w μ w'∧HR E ρ μ h' w'∧(storeCells ⟨x.1,o,none⟩ L).run P w=.ok () w':=by
 cases vs with
 | nil =>
  simp [gZ] at hs;subst hs;simp [cE] at hv;subst hv;exact ⟨w,Grows.refl _ _,hh,rfl⟩
 | cons v r =>
  simp only [gZ] at hs
  split at hs
  ·rename_i t n d e k hb;obtain ⟨h1,h2⟩:=cI hs;injection h2 with h2;subst h2;simp only [aU,bH] at h1;obtain ⟨h3,h4⟩:=h1;have h3:=aZ h3;generalize hvs:v::r=vs at *;have hl:=dc hv;obtain ⟨y,ob,e1,e2,e3⟩:=hh.blk b _ hb;rw [hx] at e1;injection e1 with e1;subst e1
   cases e3 with
   | @cells _ _ _ _ _ _ arr fz hc hn h0 ho hf hf2 =>
    have hfz:∀j,j<n→¬(fz.1≤j∧j<fz.2):=by
     intro j hj
     by_cases hk:k=2∨k=3
     ·rcases hf2 hk with q|q
      ·rw [q];simp
      ·omega
     ·rw [hf (fun e=>hk (.inl e)) (fun e=>hk (.inr e))];simp
    have hone:∀X∈L,(∀cs,X≠.agg cs)∧∀us,X≠.tuple us:=by
     intro X hX;obtain ⟨j,hj⟩:=List.mem_iff_getElem?.1 hX
     have hjl:j<L.length:=by
      rcases Nat.lt_or_ge j L.length with h|h
      ·exact h
      ·rw [List.getElem?_eq_none h] at hj;cases hj
     have hjv:vs[j]?=some vs[j]:=List.getElem?_eq_getElem (by omega);obtain ⟨Y,y1,y2⟩:=fX hv hjv;rw [hj] at y1;injection y1 with y1;subst y1;exact xV hp y2 (h4 _ (aP _))
    have run:=mQ (P:=P) L w x.1 o 0 arr e fz e2 (by omega) (fun j a1 a2=>hfz j (by omega)) hone;simp only [Nat.add_zero] at run
    refine ⟨_,?_,?_,run⟩
    ·exact Grows.change hx io (fun g hg=>gj hg) rfl rfl rfl
    ·refine HR.change hh hb hx ?_ io (fun g hg=>gj hg) (mc (gf e2))
     refine .cells (fun j u hu=>?_) (by rw [jg (by omega)];exact hn) (fun q=>by rw [jg (by omega)];exact h0 q)
      (fun q=>by obtain ⟨i,i1,i2⟩:=ho q;exact ⟨i,i1,by rw [jg (by omega)];exact i2⟩) hf (fun q=>by rw [jg (by omega)];exact hf2 q)
     rw [jo (by omega)] at hu;rw [pC (by omega)]
     by_cases hj:o≤j∧j<o+vs.length
     ·rw [if_pos hj] at hu;rw [if_pos (by omega)];obtain ⟨Y,y1,y2⟩:=fX hv hu;exact ⟨Y,y2,y1⟩
     ·rw [if_neg hj] at hu;rw [if_neg (by omega)];exact hc j u hu
  ·cases hs
theorem CU (hE:EnvOk P E) (hp:Plain ρ) {h h':H} {w:World} (hh:HR E ρ μ h w) {ty b o:Nat} {v:V} {X:Value} (hs:pB E h ty b o v=some h') {x:Nat×Nat} (hx:μ b=some x) (hv:conc ρ μ v=some X) :
  Ru P E ρ μ w (Instr.storeAt ty (.pointer (some ⟨x.1,o,none⟩)) X) h':=by
 unfold pB at hs
 split at hs
 ·cases hs
 ·rename_i i hi;obtain ⟨h1,h2⟩:=cI hs;have h1:=aS h1;have hc:=ic hp hv;obtain ⟨w',g1,g2,g3⟩:=lM (P:=P) hp hh h2 hx hc;have hl:=dc hc;refine ⟨μ,w',g1,g2,?_⟩;have hsz:X.cells.size=i.size:=by rw [←h1];simpa using hl
  simp [Instr.storeAt,Instr.sureAddr,storeVar,gO hE hi w,hsz,g3]
end
section
variable {P : Program} {E : Env} {ρ : Rho} {μ : Mu}
theorem pU {cs d:List V} (j:Nat):eH (T.putL .lf 0 cs) cs.length d j=cs[j]?:=by
 unfold eH;rw [T.get_putL]
 by_cases h:j<cs.length
 ·have:Nat.blt j cs.length=true:=by simpa using h
  rw [this,if_pos (by omega),Nat.sub_zero,List.getElem?_eq_getElem h]
  rfl
 ·have:Nat.blt j cs.length=false:=by
   cases hb:Nat.blt j cs.length with
   | false=>rfl
   | true=>exact absurd (by simpa using hb) h
  rw [this,cond_false];exact (List.getElem?_eq_none (by omega)).symm
theorem uc {h:H} {w:World} (hh:HR E ρ μ h w) {elem:Nat} {cs:List V} {C:List Value} (hc:cE ρ μ cs=some C) :
  ∃μ',Grows μ w μ' {w with heap:=w.heap.push (.cells C.toArray elem)}∧HR E ρ μ' (row h elem cs 0).2 {w with heap:=w.heap.push (.cells C.toArray elem)}∧μ' (row h elem cs 0).1=some (w.heap.size,0):=by
 refine ⟨_,Grows.alloc hh 0 rfl rfl rfl rfl,HR.alloc hh ?_ rfl,Mu.put_same _ _ _⟩;have hl:=dc hc;refine .cells (fun j v hv=>?_) (by simp;omega) (fun _=>by simp;omega) (fun q=>by omega) (fun _ _=>rfl) (fun q=>by omega);rw [pU] at hv;obtain ⟨X,e1,e2⟩:=fX hc hv;exact ⟨X,eY (Mu.le_put _ (hh.fresh _ (aI _))) _ _ e2,by simpa using e1⟩
theorem wv {t:Nat} {X:Value} (w:World):(newVar t X).run P w=.ok ⟨w.heap.size,0,none⟩ {w with heap:=w.heap.push (.cells X.cells t)}:=by
 simp [newVar,newRow]
theorem run_box (hp:Plain ρ) {h:H} {w:World} (hh:HR E ρ μ h w) {t:Nat} {v:V} {X:Value} (hv:conc ρ μ v=some X) :
  Rs P E ρ μ w (Instr.box t X) (.ptr (row h t v.cells 0).1 0) (row h t v.cells 0).2:=by
 obtain ⟨μ',g1,g2,g3⟩:=uc hh (elem:=t) (ic hp hv);simp only [Array.toArray_toList] at g1 g2;exact ⟨μ',.pointer (some ⟨w.heap.size,0,none⟩),_,g1,g2,by simp only [conc,g3,bo],by simp [Instr.box,wv]⟩
theorem Gn (hE:EnvOk P E) (hp:Plain ρ) {h:H} {w:World} (hh:HR E ρ μ h w) {t:Nat} {i:TI} (hi:E.tys.get t=some i) :
  Rs P E ρ μ w (Instr.alloc t true (.tuple #[])) (.ptr (row h t i.zero 0).1 0) (row h t i.zero 0).2:=by
 obtain ⟨Z,z1,z2,z3,z4⟩:=qn (P:=P) (ρ:=ρ) (μ:=μ) hE hi;rw [z3];obtain ⟨μ',g1,g2,g3⟩:=uc hh (elem:=t) (ic hp z2);simp only [Array.toArray_toList] at g1 g2;exact ⟨μ',.pointer (some ⟨w.heap.size,0,none⟩),_,g1,g2,by simp only [conc,g3,bo],by simp [Instr.alloc,z1,wv]⟩
theorem qv {fr:Fr} {a:Act} (k:FR ρ μ fr a):∀{l:List (Nat×Operand)} {vs:List (Nat×V)},ja fr l=some vs→vs.length=l.length ∧
  ∀(j i:Nat) v,vs[j]?=some (i,v)→∃X,(l.map fun (i,x)=>(i,a.eval x))[j]?=some (i,X)∧conc ρ μ v=some X
 | [],vs,h=>by simp [ja] at h;subst h;exact ⟨rfl,fun j i v e=>by simp at e⟩
 | (i,x)::r,vs,h=>by
  simp only [ja] at h
  cases hx:opd fr x with
  | none=>simp [hx] at h
  | some v =>
   cases hr:ja fr r with
   | none=>simp [hx,hr] at h
   | some vs' =>
    simp [hx,hr] at h;subst h;obtain ⟨X,h1,h2⟩:=cJ k hx;obtain ⟨e1,e2⟩:=qv k hr;refine ⟨by simp [e1],fun j i' v' e=>?_⟩
    cases j with
    | zero=>simp at e;obtain ⟨rfl,rfl⟩:=e;exact ⟨X,by simp [h2],h1⟩
    | succ j=>obtain ⟨Y,y1,y2⟩:=e2 j i' v' (by simpa using e);exact ⟨Y,by simpa using y1,y2⟩
theorem uX (hE:EnvOk P E):∀(fs:List Field),(fs.all fun f=>(E.tys.get f.type).isSome)=true→∃ps,fs.mapM (fun f=>(P.info? f.type).map fun i=>(f.offset,i.size))=some ps ∧
  ∀(j:Nat) f s,fs[j]?=some f→dy E f.type=some s→ps[j]?=some (f.offset,s)
 | [],_=>⟨[],by simp,fun j f s h=>by simp at h⟩
 | f::r,h=>by
  simp only [List.all_cons,aU] at h;obtain ⟨i,hi⟩:=Option.isSome_iff_exists.1 h.1;obtain ⟨ps,p1,p3⟩:=uX hE r h.2;obtain ⟨inf,z,v,h1,h2,h3,_⟩:=hE.ty hi;refine ⟨(f.offset,i.size)::ps,by simp [List.mapM_cons,h1,h3,p1],fun j g s' hj hs'=>?_⟩
  cases j with
  | zero =>
   simp at hj;subst hj;obtain ⟨i',hi',rfl⟩:=aR.1 hs';rw [hi] at hi';injection hi' with hi';subst hi';rfl
  | succ j=>simpa using p3 j g s' (by simpa using hj) hs'
theorem wz (hE:EnvOk P E) (hp:Plain ρ) {t:Nat} {i:TI} {fr:Fr} {a:Act} (k:FR ρ μ fr a) {ps:Array (Nat×Operand)} {vs:List (Nat×V)} (hi:E.tys.get t=some i) (hv:ja fr ps.toList=some vs) {out:List V}
  (h:(∃fs,i.desc=.struct fs∧(fs.toList.all fun f=>(E.tys.get f.type).isSome)=true∧cW (fun k=>match nth fs.toList k with
     | some f=>(dy E f.type).map fun s=>(f.offset,s)
     | none=>none) i.zero vs=some out)∨(∃n e s,i.desc=.array n e∧dy E e=some s∧cW (fun k=>some (k * s,s)) i.zero vs=some out)) :
  ∃X,conc ρ μ (.agg out)=some X∧∀w,(Instr.build t (ps.map fun (i,x)=>(i,a.eval x))).run P w=.ok X w:=by
 obtain ⟨inf,z,v,h1,h2,h3,h4,h5,h6,h7,h8,h9⟩:=hE.ty hi;have hz:conc ρ μ v=some z:=ju h6;have hzc:=ic hp hz;rw [←h7] at hzc;obtain ⟨l1,l2⟩:=qv k hv;have e0:(ps.map fun (i,x)=>(i,a.eval x)).toList=ps.toList.map fun (i,x)=>(i,a.eval x):=by simp
 rcases h with ⟨fs,hd,hall,hf⟩|⟨n,e,s,hd,hs,hf⟩
 ·obtain ⟨places,p1,p2⟩:=uX hE fs.toList hall
  have hpl:∀(j:Nat) x,(match nth fs.toList j with
     | some f=>(dy E f.type).map fun s=>(f.offset,s)
     | none=>none)=some x→places.toArray[j]?=some x:=by
   intro j x hj;rw [jO] at hj
   split at hj
   ·rename_i f hf';obtain ⟨s,hs,rfl⟩:=aR.1 hj;simpa using p2 j f s hf' hs
   ·cases hj
  obtain ⟨O,o1,o2⟩:=kU hp (place':=(places.toArray[·]?)) (parts':=ps.toList.map fun (i,x)=>(i,a.eval x)) hpl hf hzc (by simp [l1]) l2;refine ⟨.agg O.toArray,by simp [conc,o1],fun w=>run_build w t _ _ ?_⟩;rw [Array.toArray_toList] at o2;simpa only [Program.built,h1,h2,hd,h5,p1,e0] using o2
 ·obtain ⟨O,o1,o2⟩:=kU hp (place':=fun k=>some (k * s,s)) (parts':=ps.toList.map fun (i,x)=>(i,a.eval x)) (fun j x hj=>hj) hf hzc (by simp [l1]) l2;refine ⟨.agg O.toArray,by simp [conc,o1],fun w=>run_build w t _ _ ?_⟩;obtain ⟨ie,hie,rfl⟩:=aR.1 hs;obtain ⟨inf',z',v',q1,q2,q3,_⟩:=hE.ty hie;rw [Array.toArray_toList] at o2;simp only [Program.built,h1,h2,hd,h5,q1,q3,e0];exact o2
theorem qs (z:List V):∀n,(j8 z n).length=n * z.length
 | 0=>by simp [j8]
 | n+1=>by simp [j8,qs z n,Nat.succ_mul,Nat.add_comm]
theorem Bu (z:List V):∀(n j:Nat),j<n * z.length→(j8 z n)[j]?=z[j % z.length]?
 | 0,j,h=>by simp at h
 | n+1,j,h=>by
  simp only [j8]
  by_cases hj:j<z.length
  ·rw [List.getElem?_append_left hj,Nat.mod_eq_of_lt hj]
  ·rw [List.getElem?_append_right (by omega),Bu z n (j - z.length) (by rw [Nat.succ_mul] at h;omega)]
   congr 1
   have hz:z.length≤j:=by omega
   rw [Nat.mod_eq_sub_mod hz]
theorem Aw {vs:List V} {X:List Value} (hl:X.length=vs.length) (h:∀(j:Nat) v,vs[j]?=some v→∃x,X[j]?=some x∧conc ρ μ v=some x):cE ρ μ vs=some X:=by
 induction vs generalizing X with
 | nil=>simp at hl;subst hl;simp [cE]
 | cons v r ih =>
  cases X with
  | nil=>simp at hl
  | cons x l =>
   obtain ⟨y,y1,y2⟩:=h 0 v rfl;simp at y1;subst y1;exact eM y2 (ih (by simpa using hl) (fun j u hu=>by simpa using h (j+1) u (by simpa using hu)))
theorem Bt {z:List V} {Z:List Value} (hz:cE ρ μ z=some Z) (n:Nat):cE ρ μ (j8 z n)=some ((Array.range (n * z.length)).map (Z.toArray[· % Z.toArray.size]!)).toList:=by
 have hl:=dc hz;refine Aw (by simp [qs]) (fun j v hj=>?_)
 have hlt:j<n * z.length:=by
  rcases Nat.lt_or_ge j (n * z.length) with h|h
  ·exact h
  ·rw [List.getElem?_eq_none (by rw [qs];exact h)] at hj;cases hj
 rw [Bu z n j hlt] at hj;obtain ⟨x,x1,x2⟩:=fX hz hj;refine ⟨x,?_,x2⟩
 have hm:j % z.length<Z.length:=by
  rw [hl];exact Nat.mod_lt _ (Nat.pos_of_ne_zero (fun e=>by rw [e] at hlt;simp at hlt))
 have hlt':j<n * Z.length:=by rw [hl];exact hlt
 rw [←hl] at x1 hm ⊢;rw [List.getElem?_eq_getElem hm] at x1;injection x1 with x1;simp [hlt'];rw [List.getElem?_eq_getElem hm];simpa using x1
theorem wy (hE:EnvOk P E) (hp:Plain ρ) {h:H} {w:World} (hh:HR E ρ μ h w) {t n:Nat} {i ei:TI} {e:Nat} {fr:Fr} {a:Act} (k:FR ρ μ fr a) {ps:Array (Nat×Operand)} {vs:List (Nat×V)} (hi:E.tys.get t=some i)
  (hv:ja fr ps.toList=some vs) (hd:i.desc=.slice e) (hei:E.tys.get e=some ei) (h1:n * ei.size≤16777216) {cs:List V} (hf:cW (fun k=>some (k * ei.size,ei.size)) (j8 ei.zero n) vs=some cs) :
  Rs P E ρ μ w (Instr.buildSlice t n (ps.map fun (i,x)=>(i,a.eval x))) (.slice (row h e cs 0).1 0 n (.lit n)) (row h e cs 0).2:=by
 obtain ⟨Z,z1,z2,z3,z4⟩:=qn (P:=P) (ρ:=ρ) (μ:=μ) hE hei;have hzc:=ic hp z2;rw [←z3] at hzc;obtain ⟨l1,l2⟩:=qv k hv;have hrep:=Bt hzc n;rw [z4] at hrep;simp only [Array.toArray_toList] at hrep;obtain ⟨O,o1,o2⟩:=kU hp (place':=fun k=>some (k * ei.size,ei.size)) (parts':=ps.toList.map fun (i,x)=>(i,a.eval x)) (fun j x hj=>hj) hf hrep (by simp [l1]) l2;obtain ⟨μ',g1,g2,g3⟩:=uc hh (elem:=e) o1;refine ⟨μ',.slice (some ⟨w.heap.size,0,none⟩) n n,_,g1,g2,by simp [conc,g3,gg],?_⟩
 rw [Array.toArray_toList] at o2;have hle:¬n * ei.size > 2^24:=by omega
 by_cases h0:n * ei.size=0
 ·simp only [h0,Array.range_zero',Array.map_empty] at o2;simp [Instr.buildSlice,cR hE hi w,hd,gO hE hei w,h0,newRow,o2,Array.range_zero']
 ·simp [Instr.buildSlice,cR hE hi w,hd,gO hE hei w,hle,h0,z1,o2,newRow]
end
section
variable {P : Program} {E : Env} {ρ : Rho} {μ : Mu}
theorem zW {h:H} {w:World} (hh:HR E ρ μ h w) (t:Nat):Rs P E ρ μ w (Instr.makeMap t none) (.map (h.new (.map [] 0)).1) (h.new (.map [] 0)).2:=by
 refine ⟨_,.map (some w.heap.size),{w with heap:=w.heap.push (.map #[] 0)},Grows.alloc hh 0 rfl rfl rfl rfl,HR.alloc hh (.map rfl (fun i k v b e=>by simp at e)) rfl,?_,by simp [Instr.makeMap]⟩;simp [conc,H.new,Mu.put_same]
theorem xY {n:Nat} {d:List V} {j:Nat} (hj:j<n) (hd:0<d.length):eH .lf n d j=d[j % d.length]?:=by
 unfold eH;have:Nat.blt j n=true:=by simpa using hj
 rw [this,T.get_lf]
 match d,hd with
 | [x],_=>simp [Nat.mod_one]
 | x::y::r,_=>simp only [cond_true];rw [jO];rfl
theorem ww (hE:EnvOk P E) (hp:Plain ρ) {h h':H} {w:World} (hh:HR E ρ μ h w) {ty:Nat} {l c v:V} {L C:Value} (hv:jj E h ty l c=some (v,h')) (hl:conc ρ μ l=some L) (hc:conc ρ μ c=some C) :
  Rs P E ρ μ w (Instr.makeSlice ty L C) v h':=by
 unfold jj at hv
 split at hv
 ·rename_i i l' c' hi hl' hc';obtain ⟨kl,rfl⟩:=mV hl';obtain ⟨kc,rfl⟩:=mV hc';simp only [conc] at hl hc;injection hl with hl;injection hc with hc;subst hl hc
  split at hv
  ·rename_i e hd
   split at hv
   ·rename_i ei hei;obtain ⟨hb,hv⟩:=cI hv;simp only [aU] at hb;have h1:=aZ hb.1.1;have h2:=aZ hb.1.2;have h3:c'<9223372036854775808:=by simpa using hb.2
    injection hv with hv;obtain ⟨rfl,rfl⟩:=Prod.mk.inj hv;obtain ⟨inf,q1,q2,q3,q4,_⟩:=Bc hE hei w;obtain ⟨Z,z1,z2,z3,z4⟩:=qn (P:=P) (ρ:=ρ) (μ:=μ) hE hei;have hzc:=ic hp z2;rw [←z3] at hzc;have hzl:=dc hzc;have wl:IntKind.i64.wrap (l':Int)=l':=by rw [IntKind.wrap_i64];omega
    have wc:IntKind.i64.wrap (c':Int)=c':=by rw [IntKind.wrap_i64];omega
    have hrow:∀(cells:Array Value),cells.size=c' * ei.size→(∀j,j<c' * ei.size→cells[j]?=Z.cells.toList[j % ei.size]?) →
      ∃μ',Grows μ w μ' {w with heap:=w.heap.push (.cells cells e)}∧HR E ρ μ' (h.new (.cells .lf (c' * ei.size) ei.zero e 0)).2 {w with heap:=w.heap.push (.cells cells e)}∧μ' h.bX=some (w.heap.size,0):=by
     intro cells hs hcell;refine ⟨_,Grows.alloc hh 0 rfl rfl rfl rfl,HR.alloc hh ?_ rfl,Mu.put_same _ _ _⟩;refine .cells (fun j u hu=>?_) (by omega) (fun _=>hs) (fun q=>by omega) (fun _ _=>rfl) (fun q=>by omega)
     have hj:j<c' * ei.size:=by
      rcases Nat.lt_or_ge j (c' * ei.size) with h|h
      ·exact h
      ·unfold eH at hu
       have:Nat.blt j (c' * ei.size)=false:=by
        cases hb:Nat.blt j (c' * ei.size) with
        | false=>rfl
        | true => have : j < c' * ei.size := by simpa using hb
                  omega
       rw [this] at hu;cases hu
     have hpos:0<ei.zero.length:=by
      rw [z4];exact Nat.pos_of_ne_zero (fun e=>by rw [e] at hj;simp at hj)
     rw [xY hj hpos,z4] at hu;obtain ⟨X,x1,x2⟩:=fX hzc hu;exact ⟨X,eY (Mu.le_put _ (hh.fresh _ (aI _))) _ _ x2,by rw [hcell j hj];exact x1⟩
    have hbig:¬((281474976710656:Int)<(ei.bytes:Int) * (c':Int)):=by
     have:((ei.bytes * c':Nat):Int)≤281474976710656:=Int.ofNat_le.2 h2;simpa using this
    have hnl:¬((c':Int)<0):=by omega
    have hll:¬((l':Int)<0):=by omega
    by_cases h0:c' * ei.size=0
    ·obtain ⟨μ',g1,g2,g3⟩:=hrow #[] (by simp [h0]) (fun j hj=>by omega);refine ⟨μ',.slice (some ⟨w.heap.size,0,none⟩) l' c',_,g1,g2,by simp [conc,g3,gg,h1],?_⟩;have hlc:¬((c':Int)<(l':Int)):=by omega
     simp [Instr.makeSlice,cR hE hi w,hd,asInt,asIntOf,q1,wl,wc,q4,hbig,gO hE hei w,h0,newRow,Array.range_zero',hlc,hnl,hll]
    ·obtain ⟨μ',g1,g2,g3⟩:=hrow ((Array.range (c' * ei.size)).map (Z.cells[· % Z.cells.size]!)) (by simp) (fun j hj=>by
      have hzs:Z.cells.size=ei.size:=by rw [←z4];simpa using hzl
      have hm:j % ei.size<Z.cells.size:=by
       rw [hzs];exact Nat.mod_lt _ (Nat.pos_of_ne_zero (fun e=>by rw [e] at hj;simp at hj))
      simp [hj,hzs]
      rw [getElem?_pos Z.cells _ hm,getElem!_pos Z.cells _ hm])
     refine ⟨μ',.slice (some ⟨w.heap.size,0,none⟩) l' c',_,g1,g2,by simp [conc,g3,gg,h1],?_⟩;have hlc:¬((c':Int)<(l':Int)):=by omega
     simp [Instr.makeSlice,cR hE hi w,hd,asInt,asIntOf,q1,wl,wc,q4,hbig,gO hE hei w,h0,newRow,z1,hlc,hnl,hll]
   ·cases hv
  ·cases hv
 ·cases hv
theorem rM (size n:Nat) (s:List UInt8) (w:World):(Builtin.firstCells size n (.string ⟨s.toArray⟩)).run P w=.ok ((s.take n).map fun c=>Value.int .u8 c.toNat).toArray w:=by
 simp [Builtin.firstCells,uQ]
theorem Ct (s:List UInt8):cE ρ μ (s.map fun c=>V.int .u8 c.toNat)=some (s.map fun c=>Value.int .u8 c.toNat):=by
 induction s with
 | nil=>simp [cE]
 | cons c r ih=>simpa using eM (by simp [conc]) ih
theorem j7 {h:H} {w:World} (hh:HR E ρ μ h w) {size n:Nat} {x:V} {X:Value} {cs:List V} (hc:cX E h size n x=some cs) (hx:conc ρ μ x=some X) (hn:∀m,iu x=some m→n≤m) :
  ∃C,cE ρ μ cs=some C∧(Builtin.firstCells size n X).run P w=.ok C.toArray w∧C.length=n * size:=by
 unfold cX at hc
 split at hc
 ·injection hc with hc;subst hc;simp only [conc] at hx;injection hx with hx;subst hx;have:n=0:=by have:=hn 0 rfl;omega
  subst this;exact ⟨[],by simp [cE],by simp [Builtin.firstCells],by simp⟩
 ·rename_i b o m c
  cases h0:Nat.beq (n * size) 0 with
  | true =>
   simp only [h0,cond_true] at hc;injection hc with hc;subst hc;have h0:=aS h0;obtain ⟨y,hy,_,rfl⟩:=dI hx;exact ⟨[],by simp [cE],by simp [Builtin.firstCells,h0,loadCells,loadCellsFrom],by simp [h0]⟩
  | false =>
   simp only [h0,cond_false] at hc;have h0':n * size≠0:=by intro e;rw [e] at h0;simp at h0
   obtain ⟨h1,hc⟩:=cI hc;have h1:=aZ h1;have hn0:0<n:=Nat.pos_of_ne_zero (fun e=>by rw [e] at h0';simp at h0');obtain ⟨y,m',hy,rfl⟩:=kq hx (by omega)
   split at hc
   ·rename_i t k d e kind hb;obtain ⟨L,l1,l2,l3⟩:=jK hh hb hy hc;exact ⟨L,l1,by simp [Builtin.firstCells,mt l3 l2],l2⟩
   ·cases hc
 ·rename_i a m c;obtain ⟨h1,hc⟩:=cI hc;obtain ⟨_,rfl⟩:=iO hx;obtain ⟨L,l1,l2,l3⟩:=uO (P:=P) hh hc;exact ⟨L,l1,by simp [Builtin.firstCells,l3],l2⟩
 ·rename_i s;obtain ⟨h1,hc⟩:=cI hc;have h1:=aS h1;injection hc with hc;subst hc;simp only [conc] at hx;injection hx with hx;subst hx;have:=hn s.length rfl;exact ⟨_,Ct _,rM _ _ _ _,by simp [h1];omega⟩
 ·cases hc
theorem wV {x:V} {X:Value} {n:Nat} (h:iu x=some n) (hx:conc ρ μ x=some X) (w:World):(Builtin.lenOf X).run P w=.ok n w:=by
 unfold iu at h
 split at h
 ·injection h with h;subst h;obtain ⟨y,hy,_,rfl⟩:=dI hx;simp [Builtin.lenOf]
 ·injection h with h;subst h;obtain ⟨_,rfl⟩:=iO hx;simp [Builtin.lenOf]
 ·injection h with h;subst h;simp only [conc] at hx;injection hx with hx;subst hx;simp [Builtin.lenOf]
 ·injection h with h;subst h;simp only [conc] at hx;injection hx with hx;subst hx;simp [Builtin.lenOf,jE]
 ·cases h
theorem Gm (hE:EnvOk P E) (hp:Plain ρ) {h h':H} {w:World} (hh:HR E ρ μ h w) {dTy:Nat} {tys:Array TypeId} {ty:Nat} {d s v:V} {D S:Value} (ht:tys[0]?=some dTy) (hv:qO E h dTy d s=some (v,h')) (hd:conc ρ μ d=some D) (hs:conc ρ μ s=some S) :
  Rs P E ρ μ w (Builtin.copy_ tys ty #[D,S]) v h':=by
 unfold qO at hv
 split at hv
 ·cases hv
 ·rename_i i hi
  split at hv
  ·rename_i e hde
   split at hv
   ·rename_i ei dn sn hei hdn hsn;simp only at hv
    split at hv
    ·cases hv
    ·rename_i cs hcs;obtain ⟨C,c1,c2,c3⟩:=j7 (P:=P) hh hcs hs (fun m hm=>by rw [hsn] at hm;injection hm with hm;subst hm;exact Nat.min_le_left _ _);have ls:=wV (P:=P) hsn hs w
     split at hv
     ·injection hv with hv;obtain ⟨rfl,rfl⟩:=Prod.mk.inj hv;simp only [conc] at hd;injection hd with hd;subst hd;simp only [iu] at hdn;injection hdn with hdn;subst hdn;refine ⟨μ,.int .i64 0,w,Grows.refl _ _,hh,by simp [conc],?_⟩;simp [Builtin.copy_,ht,cR hE hi w,hde,ls,gO hE hei w,goInt];simp at c2;simp [c2]
     ·rename_i b o n c;obtain ⟨h'',hs',e2⟩:=aR.1 hv;obtain ⟨rfl,rfl⟩:=Prod.mk.inj e2;simp only [iu] at hdn;injection hdn with hdn;subst hdn
      by_cases hn:0<n
      ·obtain ⟨y,m',hy,rfl⟩:=kq hd hn;obtain ⟨w',g1,g2,g3⟩:=lM (P:=P) hp hh hs' hy c1;refine ⟨μ,.int .i64 (Nat.min sn n),w',g1,g2,by simp only [conc],?_⟩;simp [Builtin.copy_,ht,cR hE hi w,hde,ls,gO hE hei w,goInt,c2,g3]
      ·have hn:n=0:=by omega
       subst hn;obtain ⟨y,hy,hle,rfl⟩:=dI hd
       have h0:C=[]:=by
        have:C.length=0:=by rw [c3];simp [Nat.min]
        simpa using this
       subst h0
       have hcs0:cs=[]:=by
        have:=dc c1;simpa using this.symm
       subst hcs0;simp [gZ] at hs';subst hs';rw [show sn.min 0=0 from Nat.min_zero sn] at c2;refine ⟨μ,.int .i64 (Nat.min sn 0),w,Grows.refl _ _,hh,by simp only [conc],?_⟩;simp [Builtin.copy_,ht,cR hE hi w,hde,ls,gO hE hei w,goInt,c2,storeCells]
     ·cases hv
   ·cases hv
  ·cases hv
theorem C0 {h:H} {w:World} (hh:HR E ρ μ h w) {elem need cap:Nat} {ei:TI} {cs:List V} {C:List Value} {w':World} {rest:Array Value} (hc:cE ρ μ cs=some C) (hei:E.tys.get elem=some ei)
  (hn:C.length=need * ei.size) (hcap:need≤cap) (hr:rest.size=(cap - need) * ei.size) (hw:w'.heap=w.heap.push (.cells (C.toArray++rest) elem)) (ho:w'.os=w.os) (ht:w'.tape=w.tape) (hp:w'.output=w.output) :
  ∃μ',Grows μ w μ' w'∧HR E ρ μ' (row h elem cs 1).2 w'∧μ' (row h elem cs 1).1=some (w.heap.size,cap):=by
 refine ⟨_,Grows.alloc hh cap hw ho ht hp,HR.alloc hh ?_ hw,Mu.put_same _ _ _⟩;have hl:=dc hc
 have hsz:(C.toArray++rest).size=cap * ei.size:=by
  simp only [Array.size_append,List.size_toArray,hn,hr,←Nat.add_mul]
  congr 1;omega
 refine .cells (fun j v hv=>?_) (by simp only [Array.size_append,List.size_toArray];omega) (fun q=>by omega) (fun _=>⟨ei,hei,hsz⟩) (fun _ _=>rfl) (fun q=>by omega);rw [pU] at hv;obtain ⟨X,e1,e2⟩:=fX hc hv;refine ⟨X,eY (Mu.le_put _ (hh.fresh _ (aI _))) _ _ e2,?_⟩
 have hj:j<C.length:=by
  rcases Nat.lt_or_ge j C.length with h|h
  ·exact h
  ·rw [List.getElem?_eq_none h] at e1;cases e1
 rw [Array.getElem?_append_left (by simpa using hj)];simpa using e1
theorem qT {α:Type} {b:Bool} {x:Option α} {v:α} (h:(bif b then none else x)=some v):b=false∧x=some v:=by
 cases b with
 | true=>cases h
 | false=>exact ⟨rfl,h⟩
theorem src_of (hp:Plain ρ) {h:H} {w:World} (hh:HR E ρ μ h w) {t2 size n:Nat} {x:V} {X:Value} {cs:List V} (hk:(∃e',P.underlying t2=some (.slice e'))∨P.underlying t2=some .string)
  (hc:cX E h size n x=some cs) (hx:conc ρ μ x=some X) (hl:iu x=some n) (h1:cs.all V.one=true):∃C,cE ρ μ cs=some C∧C.length=n * size∧Src P size t2 X n C w:=by
 obtain ⟨C,c1,c2,c3⟩:=j7 (P:=P) hh hc hx (fun m hm=>by rw [hl] at hm;injection hm with hm;omega);obtain ⟨C',c1',c2',_⟩:=j7 (P:=P) (hh.ca (w':=w.drew) rfl) hc hx (fun m hm=>by rw [hl] at hm;injection hm with hm;omega);rw [c1] at c1';injection c1' with c1';subst c1';refine ⟨C,c1,c3,hk,fun w'=>wV hl hx w',c2,c2',c3,fun u hu=>?_⟩;obtain ⟨j,hj⟩:=List.mem_iff_getElem?.1 hu;have hjl:=List.getElem?_eq_some_iff.1 hj
 obtain ⟨hjl,_⟩:=hjl;have hcl:=dc c1;have hjv:cs[j]?=some cs[j]:=List.getElem?_eq_getElem (by omega);obtain ⟨Y,y1,y2⟩:=fX c1 hjv;rw [hj] at y1;injection y1 with y1;subst y1;obtain ⟨n1,n2⟩:=xV hp y2 (bH.1 h1 _ (aP _))
 cases u<;>first|rfl|exact absurd rfl (n1 _)|exact absurd rfl (n2 _)
structure App (P:Program) (t t2 ty e:Nat) (inf:TypeInfo) (X:Value) (n:Nat) (N:List Value) (w:World):Prop where
 newsLen:N.length=n * inf.size
 one:∀u∈N,u.oneCell'=true
 nothing:n=0→∀(base:Option Addr) (sLen sCap:Nat),sLen≤sCap→(Builtin.append_ #[t,t2] ty #[.slice base sLen sCap,X]).run P w=.ok (.slice base sLen sCap) w
 room:∀{a:Addr} {sLen sCap:Nat} {w':World},sLen+n≤sCap→(storeCells (a.add (sLen * inf.size)) N).run P w=.ok () w'→(Builtin.append_ #[t,t2] ty #[.slice (some a) sLen sCap,X]).run P w=.ok (.slice (some a) (sLen+n) sCap) w'
 grow:∀{z:Value} {base:Option Addr} {sLen sCap:Nat} {O:List Value},inf.zero=some z→(Builtin.firstCells inf.size sLen (.slice base sLen sCap)).run P w.drew=.ok O.toArray w.drew→sCap<sLen+n→((sLen+n:Nat):Int)≤9223372036854775807 →
  Builtin.nextslicecap (sLen+n) sCap * inf.bytes≤281474976710656→(Builtin.append_ #[t,t2] ty #[.slice base sLen sCap,X]).run P w =
   .ok (.slice (some ⟨w.heap.size,0,none⟩) (sLen+n) (grownCap w (sLen+n) sCap e))
    (w.drew.alloc (.cells ((O++N).toArray++Builtin.zeroCells z.cells (grownCap w (sLen+n) sCap e - (sLen+n))) e))
theorem App.of_src {w:World} {t t2 ty e n:Nat} {inf:TypeInfo} {X:Value} {N:List Value} (ht:P.underlying t=some (.slice e)) (hi:P.info? e=some inf) (hs:Src P inf.size t2 X n N w):App P t t2 ty e inf X n N w :=
 ⟨hs.newsLen,hs.one,fun h base sLen sCap hle=>by
   subst h;have:N=[]:=by simpa using hs.newsLen
   subst this
   exact run_append_nothing w t t2 ty e inf ht hi base sLen sCap hle X hs,
  fun {a sLen sCap w'} hroom hst=>by rcases hs.kind with ⟨e',hk⟩|hk<;>simp [Builtin.append_,run_underlying ht,run_underlying hk,sizeOf,typeInfo,hi,hs.len,hroom,hs.cells,hst],
  fun {z base sLen sCap O} hz hO hg h63 hfit=>run_append_grow_src (P:=P) w t t2 ty e inf z ht hi hz base sLen sCap O hO X n N hs hg h63 hfit⟩
theorem vQ (z:Value) (n:Nat):(Builtin.zeroCells z.cells n).toList.length=n * z.cells.size:=by simp [Builtin.zeroCells]
theorem App.of_zeros {w:World} {t t2 ty e n:Nat} {inf:TypeInfo} {z:Value} {k kn:IntKind} (ht:P.underlying t=some (.slice e)) (h2:P.underlying t2=some (.int kn)) (hi:P.info? e=some inf) (hz:inf.zero=some z) (hzs:z.cells.size=inf.size)
  (h0:0<n) (hs:0<inf.size) (hb:n * inf.bytes≤281474976710656) (h63:(n:Int)≤9223372036854775807) (h1:∀u∈(Builtin.zeroCells z.cells n).toList,u.oneCell'=true) :
  App P t t2 ty e inf (.int k n) n (Builtin.zeroCells z.cells n).toList w:=by
 have hk:n≠0:=by omega
 have hw:IntKind.i64.wrap (n:Int)=n:=by rw [IntKind.wrap_i64];omega
 have h48i:¬(281474976710656<(n:Int) * (inf.bytes:Int)):=by
  rw [←Int.natCast_mul];omega
 have hneg:¬((n:Int)<0):=by omega
 have hns:¬(n * inf.size=0):=Nat.mul_ne_zero hk (by omega)
 refine ⟨by rw [vQ,hzs],h1,fun h=>absurd h hk,fun {a sLen sCap w'} hroom hst=>?_,fun {z' base sLen sCap O} hz' hO hg h63' hfit=>?_⟩
 ·simp [Builtin.append_,run_underlying ht,run_underlying h2,sizeOf,typeInfo,zeroValue,hi,hz,asInt,asIntOf,hw,hk,hneg,hns,h48i,hroom,hst]
 ·rw [hz] at hz';injection hz' with hz';subst hz';have:=Go.Lib.run_append_grow_zeros (P:=P) w t t2 ty e inf z k kn ht h2 hi hz base sLen sCap O hO n h0 hs hg h63' hb hfit
  have e1:O.toArray++Builtin.zeroCells z.cells n=(O++(Builtin.zeroCells z.cells n).toList).toArray:=by
   apply Array.ext';simp
  rw [this,e1]
theorem Bd (hE:EnvOk P E) (hp:Plain ρ) {h:H} {w:World} (hh:HR E ρ μ h w) {e sCap sLen n t t2 ty:Nat} {ei i:TI} {old new:List V} {O N:List Value} {base:Option Addr} {X:Value}
  (hi:E.tys.get t=some i) (hd:i.desc=.slice e) (hei:E.tys.get e=some ei) {inf0:TypeInfo} (hinf:P.info? e=some inf0) (hs:App P t t2 ty e inf0 X n N w)
  (hgrow:sCap<sLen+n) (hb:(sLen+n) * ei.bytes≤140737488355328) (hb0:0<ei.bytes)
  (ho:cE ρ μ old=some O) (hn:cE ρ μ new=some N) (hlen:O.length=sLen * ei.size)
  (hfo:(Builtin.firstCells ei.size sLen (.slice base sLen sCap)).run P w.drew=.ok O.toArray w.drew) :
  Rs P E ρ μ w (Builtin.append_ #[t,t2] ty #[.slice base sLen sCap,X]) (grow h e old new (sLen+n)).1 (grow h e old new (sLen+n)).2:=by
 obtain ⟨inf,z,v,h1,h2,h3,h4,h5,h6,h7,h8,h9,h10⟩:=hE.ty hei;obtain ⟨inf',z',v',g1,g2,_⟩:=hE.ty hi;rw [hd] at g2
 have hzs:z.cells.size=ei.size:=by
  have:=dc (ic (ρ:=ρ) (μ:=μ) hp (ju h6));rw [←h7,h10] at this;simpa using this
 have hge:=grownCap_ge w (sLen+n) sCap e;rw [h1] at hinf;injection hinf with hinf;subst hinf;have hN:=hs.newsLen;rw [h3] at hN;have hbig:sLen+n≤140737488355328:=Nat.le_trans (Nat.le_mul_of_pos_right _ hb0) hb;have run:=hs.grow h5 (base:=base) (by rw [h3];exact hfo) hgrow (by omega) (by rw [h4];exact growslice_fits hgrow hb);generalize grownCap w (sLen+n) sCap e=cp at run hge
 obtain ⟨μ',k1,k2,k3⟩:=C0 (w':=w.drew.alloc (.cells ((O++N).toArray++Builtin.zeroCells z.cells (cp - (sLen+n))) e)) hh (ku ho hn) hei (cap:=cp) (need:=sLen+n)
  (by simp only [aQ,hlen,hN,Nat.add_mul]) hge (by simp [Builtin.zeroCells,hzs]) rfl rfl rfl rfl
 refine ⟨μ',.slice (some ⟨w.heap.size,0,none⟩) (sLen+n) cp,_,k1,k2,?_,run⟩;have k3':μ' h.bX=some (w.heap.size,cp):=k3;simp [grow,row,H.new,conc,k3',gg,hge]
theorem H.del_get {h:H} {b c:Nat} {B:B} (hc:(h.t.del b).get c=some B):c≠b∧h.t.get c=some B:=by
 rw [T.get_del] at hc
 by_cases e:c=b
 ·rw [if_pos e] at hc;cases hc
 ·rw [if_neg e] at hc;exact ⟨e,hc⟩
theorem HR.del {h:H} {w:World} (k:HR E ρ μ h w) (b:Nat):HR E ρ μ (H.mk (h.t.del b) h.bX) w:=by
 have live:∀c,((h.t.del b).get c).isSome→(h.t.get c).isSome:=by
  intro c hc;obtain ⟨B,hB⟩:=Option.isSome_iff_exists.1 hc;rw [(H.del_get hB).2];rfl
 exact ⟨fun c B hB=>k.blk c B (H.del_get hB).2,fun c c' y y' h1 h2=>k.inj c c' y y' (live c h1) (live c' h2),k.fresh,k.inb,k.cn⟩
theorem HR.move {h:H} {w w':World} {b:Nat} {B0 B1:B} {x:Nat×Nat} {o:Obj} (k:HR E ρ μ h w) (h0:h.t.get b=some B0) (hx:μ b=some x)
  (hb:BR E ρ (μ.put h.bX x) B1 x o) (hs:w'.heap.size=w.heap.size) (hsame:∀g,g≠x.1→w'.heap[g]?=w.heap[g]?) (hat:w'.heap[x.1]?=some o) :
  HR E ρ (μ.put h.bX x) (H.mk ((h.t.del b).set h.bX B1) (Nat.succ h.bX)) w':=by
 have hfr:μ h.bX=none:=k.fresh _ (aI _);have hle:=Mu.le_put (μ:=μ) x hfr
 have other:∀c B',((h.t.del b).set h.bX B1).get c=some B'→c≠h.bX→c≠b∧h.t.get c=some B':=by
  intro c B' hc hne;rw [T.get_set,if_neg hne] at hc;exact H.del_get hc
 have hne:b≠h.bX:=by rintro rfl;rw [hfr] at hx;cases hx
 refine ⟨fun c B' hB'=>?_,fun c c' y y' hc hc' h1 h2 hn=>?_,fun c hc=>?_,fun c y hy=>?_,fun g cs hg=>?_⟩
 ·by_cases e:c=h.bX
  ·subst e;have hB'':((h.t.del b).set h.bX B1).get h.bX=some B':=hB';rw [T.get_set,if_pos rfl] at hB'';injection hB'' with hB'';subst hB'';exact ⟨x,o,Mu.put_same _ _ _,hat,hb⟩
  ·obtain ⟨e1,e2⟩:=other c B' hB' e;obtain ⟨y,o',h1,h2,h3⟩:=k.blk c B' e2;refine ⟨y,o',hle _ _ h1,?_,h3.le hle⟩
   rw [hsame]
   ·exact h2
   ·exact k.inj c b y x (by rw [e2];rfl) (by rw [h0];rfl) h1 hx e1
 ·obtain ⟨B2,hB2⟩:=Option.isSome_iff_exists.1 hc;obtain ⟨B3,hB3⟩:=Option.isSome_iff_exists.1 hc'
  by_cases e:c=h.bX
  ·subst e;rw [Mu.put_same] at h1;injection h1 with h1;subst h1;obtain ⟨e1,e2⟩:=other c' B3 hB3 (Ne.symm hn);rw [Mu.put_other _ _ (Ne.symm hn)] at h2;exact (k.inj c' b y' x (by rw [e2];rfl) (by rw [h0];rfl) h2 hx e1).symm
  ·obtain ⟨e1,e2⟩:=other c B2 hB2 e;rw [Mu.put_other _ _ e] at h1
   by_cases e':c'=h.bX
   ·subst e';rw [Mu.put_same] at h2;injection h2 with h2;subst h2;exact k.inj c b y x (by rw [e2];rfl) (by rw [h0];rfl) h1 hx e1
   ·obtain ⟨e1',e2'⟩:=other c' B3 hB3 e';rw [Mu.put_other _ _ e'] at h2;exact k.inj c c' y y' (by rw [e2];rfl) (by rw [e2'];rfl) h1 h2 hn
 ·have hc':h.bX+1≤c:=hc;rw [Mu.put_other _ _ (by omega)];exact k.fresh c (by omega)
 ·rw [hs]
  by_cases e:c=h.bX
  ·subst e;rw [Mu.put_same] at hy;injection hy with hy;rw [←hy];exact k.inb b x hx
  ·rw [Mu.put_other _ _ e] at hy;exact k.inb c y hy
 ·obtain ⟨⟨arr,e,fz,h1,h2⟩,h4⟩:=k.cn g cs hg;refine ⟨⟨arr,e,fz,by rw [hsame g (fun e=>h4 b x hx e.symm)];exact h1,h2⟩,fun c y hy=>?_⟩
  by_cases e:c=h.bX
  ·subst e;rw [Mu.put_same] at hy;injection hy with hy;rw [←hy];exact h4 b x hx
  ·rw [Mu.put_other _ _ e] at hy;exact h4 c y hy
theorem Grows.move {h:H} {w w':World} {b:Nat} {x:Nat×Nat} (k:HR E ρ μ h w) (hx:μ b=some x) (hs:w'.heap.size=w.heap.size) (hsame:∀g,g≠x.1→w'.heap[g]?=w.heap[g]?)
  (ho:w'.os=w.os) (ht:w'.tape=w.tape) (hp:w'.output=w.output):Grows μ w (μ.put h.bX x) w':=by
 refine ⟨Mu.le_put _ (k.fresh _ (aI _)),fun c y hy=>?_,ho,ht,hp,by omega,fun g _ hn=>hsame g (fun e=>hn b x hx e.symm)⟩
 by_cases e:c=h.bX
 ·subst e;rw [Mu.put_same] at hy;injection hy with hy;subst hy;exact .inr (.inr ⟨b,x,hx,rfl⟩)
 ·rw [Mu.put_other _ _ e] at hy;exact .inl hy
theorem ble_mul {a b c:Nat} (h:a * c≤b * c) (hc:0<c):a≤b:=Nat.le_of_mul_le_mul_right h hc
theorem uS (hE:EnvOk P E) (hp:Plain ρ) {h h':H} {w:World} (hh:HR E ρ μ h w) {t t2 ty e n:Nat} {i ei:TI} {inf:TypeInfo} {s v:V} {new:List V} {N:List Value} {S X:Value} (hi:E.tys.get t=some i) (hd:i.desc=.slice e) (hei:E.tys.get e=some ei) (q1:P.info? e=some inf) (q3:inf.size=ei.size) (q4:inf.bytes=ei.bytes)
  (n1:cE ρ μ new=some N) (hsrc:App P t t2 ty e inf X n N w) (hv:rH E h e ei s new n=some (v,h')) (hs:conc ρ μ s=some S):Rs P E ρ μ w (Builtin.append_ #[t,t2] ty #[S,X]) v h':=by
 have n2:N.length=n * ei.size:=by rw [hsrc.newsLen,q3]
 obtain ⟨inf',z',_,r1,r2,_⟩:=hE.ty hi;rw [hd] at r2;unfold rH at hv
 split at hv
 ·-- a nil slice
  simp only [conc] at hs;injection hs with hs;subst hs
  split at hv
  ·injection hv with hv;obtain ⟨rfl,rfl⟩:=Prod.mk.inj hv;have hN:N=[]:=by simpa using n2
   subst hN;exact ⟨μ,.slice none 0 0,w,Grows.refl _ _,hh,by simp [conc],hsrc.nothing rfl none 0 0 (aI _)⟩
  ·rename_i hn0;obtain ⟨hb,hv⟩:=cI hv;simp only [aU] at hb;have hb1:=aZ hb.1;have hb2:0<ei.bytes:=by simpa using hb.2
   injection hv with hv;have hpos:0<n:=Nat.pos_of_ne_zero hn0;have:=Bd (ty:=ty) (sLen:=0) (sCap:=0) (base:=none) (old:=[]) (O:=[]) hE hp hh hi hd hei q1 hsrc (by omega) (by simpa using hb1) hb2 (by simp [cE]) n1 (by simp) (by simp [Builtin.firstCells]);rw [aH,hv] at this;exact this
 ·rename_i b o m c;simp only at hv;obtain ⟨hb,hv⟩:=qT hv;simp only [Bool.not_eq_false',aU] at hb;have hb1:=aZ hb.1.1;have hb2:0<ei.bytes:=by simpa using hb.1.2
  have hb3:0<ei.size:=by simpa using hb.2
  cases c with
  | lit cp =>
   simp only at hv;obtain ⟨y,hy,hle,rfl⟩:=nE hs
   cases hroom:Nat.ble (m+n) cp with
   | true =>
    rw [hroom,cond_true] at hv;have hroom:=aZ hroom;obtain ⟨h'',hst,e2⟩:=aR.1 hv;obtain ⟨rfl,rfl⟩:=Prod.mk.inj e2;obtain ⟨w',g1,g2,g3⟩:=lM (P:=P) hp hh hst hy n1;refine ⟨μ,_,w',g1,g2,?_,hsrc.room hroom (by rw [q3,Addr.add_lit];exact g3)⟩;simp [conc,hy,gg,hroom]
   | false =>
    rw [hroom,cond_false] at hv
    have hroom:cp<m+n:=by
     rcases Nat.lt_or_ge cp (m+n) with q|q
     ·exact q
     ·rw [Nat.ble_eq_true_of_le q] at hroom;cases hroom
    split at hv
    ·rename_i old hold;injection hv with hv;obtain ⟨O,o1,o2,o3⟩:=j7 (P:=P) (hh.ca (w':=w.drew) rfl) hold hs (fun m' hm=>by simp only [iu] at hm;injection hm with hm;omega);have:=Bd (ty:=ty) hE hp hh hi hd hei q1 hsrc hroom hb1 hb2 o1 n1 o3 o2;rw [hv] at this;exact this
    ·cases hv
  | opn el o' =>
   simp only at hv;obtain ⟨y,hy,hle,rfl⟩:=dI hs;simp only [pt,vw] at hle ⊢
   split at hv
   ·rename_i T k d be kind hbk;obtain ⟨hbe,hv⟩:=qT hv;simp only [Bool.not_eq_false',aU,bS] at hbe;have hbe1:=aS hbe.1;subst hbe1;have hkd:kind=1∨kind=2:=by rcases hbe.2 with q|q<;>simp [aS q]
    have hk0:kind≠0:=by rcases hkd with q|q<;>rw [q]<;>decide
    obtain ⟨y',ob,e1,e2,e3⟩:=hh.blk b _ hbk;rw [hy] at e1;injection e1 with e1;subst e1
    cases e3 with
    | @cells _ _ _ _ _ _ arr fz hc hnn h0 ho hf hf2 =>
    obtain ⟨ei',hei',harr⟩:=ho hkd;rw [hei] at hei';injection hei' with hei';subst hei'
    cases hroom:Nat.ble ((el+(m+n)) * ei.size) k with
    | true =>
     rw [hroom,cond_true] at hv;have hroom:=aZ hroom;have hcap:el+(m+n)≤y.2:=ble_mul (c:=ei.size) (by omega) hb3;obtain ⟨h'',hst,e2'⟩:=aR.1 hv;obtain ⟨rfl,rfl⟩:=Prod.mk.inj e2'
     by_cases hz:y.2 - el=0
     ·have hm0:m=0:=by omega
      have hn0:n=0:=by omega
      subst hm0 hn0;have hN:N=[]:=by simpa using n2
      subst hN;have hnew0:new=[]:=by have:=dc n1;simpa using this.symm
      subst hnew0;simp [gZ] at hst;subst hst;refine ⟨μ,_,w,Grows.refl _ _,hh,?_,hsrc.nothing rfl _ 0 _ (Nat.zero_le _)⟩;simp [conc,hy,gg]
     ·rw [if_neg hz];obtain ⟨w',g1,g2,g3⟩:=lM (P:=P) hp hh hst hy n1;refine ⟨μ,_,w',g1,g2,?_,hsrc.room (by omega) (by rw [q3,Addr.add_lit];exact g3)⟩;simp only [conc,hy,gg,bQ];rw [if_pos (by omega),if_neg hz]
    | false =>
     rw [hroom,cond_false] at hv
     split at hv
     ·split at hv
      ·obtain ⟨hmk,hv⟩:=cI hv;have hmk:=aZ hmk;injection hv with hv;obtain ⟨rfl,rfl⟩:=Prod.mk.inj hv;have hl:=dc n1;have hif:(if y.2 - 0=0 then 0 else 0)=0:=by simp
       rw [hif];simp only [Nat.sub_zero] at hle ⊢
       by_cases hroom':m+n≤y.2
       ·-- in place
        have hsz:m * ei.size+N.length≤arr.size:=by
         rw [n2,harr,←Nat.add_mul];exact Nat.mul_le_mul_right _ hroom'
        have hst:=mQ (P:=P) N w y.1 (m * ei.size) 0 arr be fz e2 (by omega) (fun j a1 a2=>by
         by_cases hk2:kind=2
         ·rcases hf2 (.inl hk2) with q|q
          ·rw [q];simp
          ·omega
         ·rw [hf hk2 (by rcases hkd with q|q<;>omega)];simp) (fun u hu=>by
         have:=hsrc.one u hu
         constructor<;>rintro q rfl<;>cases this)
        simp only [Nat.add_zero] at hst
        have hst':(storeCells (Addr.add ⟨y.1,0,none⟩ (m * inf.size)) N).run P w=.ok () (World.at_ w y.1 (.cells (oD arr (m * ei.size) N) be fz)):=by
         rw [q3,Addr.add_lit,aH];exact hst
        refine ⟨μ.put h.bX y,_,_,Grows.move hh hy io (fun g hg=>gj hg) rfl rfl rfl,HR.move hh hbk hy ?_ io (fun g hg=>gj hg) (mc (gf e2)),?_,hsrc.room hroom' hst'⟩
        ·refine .cells (fun j u hu=>?_) ?_ (fun q=>by rcases hkd with q'|q'<;>omega) (fun _=>⟨ei,hei,by rw [jg hsz];exact harr⟩) hf (fun q=>by rw [jg hsz];exact hf2 q)
         ·rw [jo (by rw [←hl,n2,←Nat.add_mul];exact aI _)] at hu;rw [pC hsz]
          by_cases hjj:m * ei.size≤j∧j<m * ei.size+new.length
          ·rw [if_pos hjj] at hu;rw [if_pos (by omega)];obtain ⟨Y,y1,y2⟩:=fX n1 hu;exact ⟨Y,eY (Mu.le_put _ (hh.fresh _ (aI _))) _ _ y2,y1⟩
          ·rw [if_neg hjj] at hu;rw [if_neg (by omega)]
           have hjlt:j<m * ei.size:=by
            have hjn:j<(m+n) * ei.size:=by
             rcases Nat.lt_or_ge j ((m+n) * ei.size) with q|q
             ·exact q
             ·unfold eH at hu
              have:Nat.blt j ((m+n) * ei.size)=false:=by
               cases hbb:Nat.blt j ((m+n) * ei.size) with
               | false=>rfl
               | true => have : j < (m + n) * ei.size := by simpa using hbb
                         omega
              rw [this] at hu;cases hu
            rw [Nat.add_mul] at hjn;omega
           have hu':eH T k d j=some u:=by
            unfold eH at hu ⊢;have c1:Nat.blt j k=true:=by simp;omega
            have c2:Nat.blt j ((m+n) * ei.size)=true:=by simp [Nat.add_mul];omega
            rw [c2] at hu;rw [c1];exact hu
           obtain ⟨Y,y1,y2⟩:=hc j u hu';exact ⟨Y,eY (Mu.le_put _ (hh.fresh _ (aI _))) _ _ y1,y2⟩
         ·rw [jg hsz,harr];exact Nat.mul_le_mul_right _ hroom'
        ·simp [conc,Mu.put_same,gg,hroom']
       ·-- a new row
        have hold:m * ei.size≤arr.size:=by omega
        have hO:(Builtin.firstCells inf.size m (.slice (some ⟨y.1,0,none⟩) m y.2)).run P w.drew=.ok (arr.toList.take (m * ei.size)).toArray w.drew:=by
         simp only [Builtin.firstCells,q3];refine mt (fun j Y hj=>?_) (by simp;omega)
         have hj':arr[j]?=some Y:=by
          rw [List.getElem?_take] at hj
          split at hj
          ·simpa using hj
          ·cases hj
         have e2d:w.drew.heap[y.1]?=some (.cells arr be fz):=e2;simp [World.cell?,e2d,hj']
        have hbig:m+n≤140737488355328:=Nat.le_trans (Nat.le_mul_of_pos_right _ hb2) hb1;have hge:=grownCap_ge w (m+n) y.2 be;obtain ⟨_,z0,v0,s1,_,_,_,s5,s6,s7,_,_,s10⟩:=hE.ty hei;rw [q1] at s1;injection s1 with s1;subst s1
        have hzs:z0.cells.size=ei.size:=by
         have:=dc (ic (ρ:=ρ) (μ:=μ) hp (ju s6));rw [←s7,s10] at this;simpa using this
        have run:=hsrc.grow s5 (base:=some ⟨y.1,0,none⟩) hO (by omega) (by omega) (by rw [q4];exact growslice_fits (by omega) hb1);generalize grownCap w (m+n) y.2 be=cp at run hge
        have hsz:((arr.toList.take (m * ei.size)++N).toArray++Builtin.zeroCells z0.cells (cp - (m+n))).size=cp * ei.size:=by
         have e5:(arr.toList.take (m * ei.size)).length=m * ei.size:=by simp;omega
         simp only [Builtin.zeroCells,Array.size_append,List.size_toArray,aQ,e5,n2,Array.size_map,Array.size_range,hzs,←Nat.add_mul]
         congr 1;omega
        refine ⟨μ.put h.bX (w.heap.size,cp),_,w.drew.alloc (.cells ((arr.toList.take (m * ei.size)++N).toArray++Builtin.zeroCells z0.cells (cp - (m+n))) be),Grows.alloc hh cp rfl rfl rfl rfl,HR.alloc (hh.del b) (o:=.cells ((arr.toList.take (m * ei.size)++N).toArray++Builtin.zeroCells z0.cells (cp - (m+n))) be) (cap:=cp) ?_ rfl,?_,run⟩
        ·refine .cells (fun j u hu=>?_) ?_ (fun q=>by rcases hkd with q'|q'<;>omega) (fun _=>⟨ei,hei,hsz⟩) (fun _ _=>rfl) (fun _=>.inl rfl)
         ·have hjn:j<(m+n) * ei.size:=by
           rcases Nat.lt_or_ge j ((m+n) * ei.size) with q|q
           ·exact q
           ·unfold eH at hu
            have:Nat.blt j ((m+n) * ei.size)=false:=by
             cases hbb:Nat.blt j ((m+n) * ei.size) with
             | false=>rfl
             | true => have : j < (m + n) * ei.size := by simpa using hbb
                       omega
            rw [this] at hu;cases hu
          have e5:(arr.toList.take (m * ei.size)).length=m * ei.size:=by simp;omega
          rw [Nat.add_mul] at hjn;rw [jo (by rw [←hl,n2,←Nat.add_mul];exact aI _)] at hu;have hlt:j<(arr.toList.take (m * ei.size)++N).toArray.size:=by rw [List.size_toArray,aQ,e5,n2];exact hjn
          rw [Array.getElem?_append_left hlt]
          by_cases hjj:m * ei.size≤j∧j<m * ei.size+new.length
          ·rw [if_pos hjj] at hu;obtain ⟨Y,y1,y2⟩:=fX n1 hu;refine ⟨Y,eY (Mu.le_put _ (hh.fresh _ (aI _))) _ _ y2,?_⟩;rw [List.getElem?_toArray,List.getElem?_append_right (by omega),e5];exact y1
          ·rw [if_neg hjj] at hu;have hjlt:j<m * ei.size:=by omega
           have hu':eH T k d j=some u:=by
            unfold eH at hu ⊢;have c1:Nat.blt j k=true:=by simp;omega
            have c2:Nat.blt j ((m+n) * ei.size)=true:=by simp [Nat.add_mul];omega
            rw [c2] at hu;rw [c1];exact hu
           obtain ⟨Y,y1,y2⟩:=hc j u hu';refine ⟨Y,eY (Mu.le_put _ (hh.fresh _ (aI _))) _ _ y1,?_⟩;rw [List.getElem?_toArray,List.getElem?_append_left (by omega),List.getElem?_take,if_pos hjlt];simpa using y2
         ·rw [hsz];exact Nat.mul_le_mul_right _ hge
        ·simp [conc,Mu.put_same,gg,hge]
      ·cases hv
     ·cases hv
   ·cases hv
 ·cases hv
theorem uT (hE:EnvOk P E) (hp:Plain ρ) {h h':H} {w:World} (hh:HR E ρ μ h w) {t t2:Nat} {ty:Nat} {j:TI} {s x v:V} {S X:Value} (hj:E.tys.get t2=some j) (hk:(∃e',j.desc=.slice e')∨j.desc=.string)
  (hv:fK E h t s x=some (v,h')) (hs:conc ρ μ s=some S) (hx:conc ρ μ x=some X) :
  Rs P E ρ μ w (Builtin.append_ #[t,t2] ty #[S,X]) v h':=by
 have hk':(∃e',P.underlying t2=some (.slice e'))∨P.underlying t2=some .string:=by
  obtain ⟨_,_,_,_,q,_⟩:=hE.ty hj
  rcases hk with ⟨e',hk⟩|hk
  ·exact .inl ⟨e',by rw [q,hk]⟩
  ·exact .inr (by rw [q,hk])
 unfold fK at hv
 split at hv
 ·cases hv
 ·rename_i i hi
  split at hv
  ·rename_i e hd
   split at hv
   ·rename_i ei n hei hn
    split at hv
    ·cases hv
    ·rename_i new hnew;obtain ⟨hone,hv⟩:=qT hv;simp only [Bool.not_eq_false'] at hone;obtain ⟨N,n1,n2,hsrc⟩:=src_of (P:=P) hp hh hk' hnew hx hn hone;obtain ⟨inf,z,_,q1,q2,q3,q4,_⟩:=hE.ty hei;obtain ⟨inf',z',_,r1,r2,_⟩:=hE.ty hi;rw [hd] at r2;exact uS hE hp hh hi hd hei q1 q3 q4 n1 (App.of_src r2 q1 (by rw [q3];exact hsrc)) hv hs
   ·cases hv
  ·cases hv
theorem Df (hp:Plain ρ) {cs:List V} {C:List Value} (c1:cE ρ μ cs=some C) (h1:cs.all V.one=true):∀u∈C,u.oneCell'=true:=by
 intro u hu;obtain ⟨j,hj⟩:=List.mem_iff_getElem?.1 hu;obtain ⟨hjl,_⟩:=List.getElem?_eq_some_iff.1 hj;have hcl:=dc c1;have hjv:cs[j]?=some cs[j]:=List.getElem?_eq_getElem (by omega);obtain ⟨Y,y1,y2⟩:=fX c1 hjv;rw [hj] at y1;injection y1 with y1;subst y1;obtain ⟨n1,n2⟩:=xV hp y2 (bH.1 h1 _ (aP _))
 cases u<;>first|rfl|exact absurd rfl (n1 _)|exact absurd rfl (n2 _)
theorem Bg (hE:EnvOk P E) (hp:Plain ρ) {h h':H} {w:World} (hh:HR E ρ μ h w) {t t2:Nat} {ty:Nat} {j:TI} {kn:IntKind} {s x v:V} {S X:Value} (hj:E.tys.get t2=some j) (hk:j.desc=.int kn)
  (hv:nF E h t s x=some (v,h')) (hs:conc ρ μ s=some S) (hx:conc ρ μ x=some X) :
  Rs P E ρ μ w (Builtin.append_ #[t,t2] ty #[S,X]) v h':=by
 have hk':P.underlying t2=some (.int kn):=by
  obtain ⟨_,_,_,_,q,_⟩:=hE.ty hj;rw [q,hk]
 unfold nF at hv
 split at hv
 ·cases hv
 ·rename_i i hi
  split at hv
  ·rename_i e k z hd
   split at hv
   ·rename_i ei n hei;obtain ⟨hb,hv⟩:=cI hv;simp only [aU] at hb;obtain ⟨⟨⟨⟨b1,b2⟩,b3⟩,b4⟩,b5⟩:=hb;have b1:0<n:=by simpa using b1
    have b2:0<ei.size:=by simpa using b2
    have b4:=aZ b4;have b5:0<ei.bytes:=by simpa using b5
    simp only [conc] at hx;injection hx with hx;subst hx;obtain ⟨inf,zz,vz,q1,q2,q3,q4,q5,q6,q7,q8,q9,q10⟩:=hE.ty hei;obtain ⟨inf',z',_,r1,r2,_⟩:=hE.ty hi;rw [hd] at r2;have hzc:=ic (ρ:=ρ) (μ:=μ) hp (ju q6);rw [←q7] at hzc;have hzl:=dc hzc;have hzs:zz.cells.size=inf.size:=by rw [q3,←q10];simpa using hzl
    have hN:cE ρ μ (j8 ei.zero n)=some (Builtin.zeroCells zz.cells n).toList:=by
     have:=Bt hzc n;rw [this];have e1:ei.zero.length=zz.cells.size:=by simpa using hzl.symm
     simp [Builtin.zeroCells,e1]
    have hbig:n≤140737488355328:=Nat.le_trans (Nat.le_mul_of_pos_right _ b5) b4;exact uS hE hp hh hi hd hei q1 q3 q4 hN (App.of_zeros (k:=k) r2 hk' q1 q5 hzs b1 (by omega) (by rw [q4];omega) (by omega) (Df hp hN b3)) hv hs
   ·cases hv
  ·cases hv
end
end Go.Ev
