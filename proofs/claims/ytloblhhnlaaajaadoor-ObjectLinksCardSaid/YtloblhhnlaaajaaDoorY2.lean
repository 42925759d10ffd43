/- Comparisons, sums, conversions, structs. -/
import Derived.Test.YtloblhhnlaaajaaDoorY1
import Derived.LaidEql
import Derived.Laws.Strings
import Derived.Laws.StructEq
import Derived.ChangeKeysEq
set_option linter.unusedVariables false
set_option linter.unusedSimpArgs false
set_option linter.defProp false
namespace Go.Ev
open Go
section
variable {P : Program} {E : Env} {ρ : Rho} {μ : Mu}
theorem Gk (hE:EnvOk P E) {t:Nat} {x ix v:V} {X I:Value} (h:Dr E t x ix=some v) (hx:conc ρ μ x=some X) (hix:conc ρ μ ix=some I) :
  ∃Y,conc ρ μ v=some Y∧∀w,(Instr.index t X I).run P w=.ok Y w:=by
 unfold Dr at h
 split at h
 ·rename_i i k hi hk;obtain ⟨kk,rfl⟩:=mV hk;simp only [conc] at hix;injection hix with hix;subst hix
  split at h
  ·rename_i n e cs hd;obtain ⟨hb,h⟩:=cI h;have hlt:k<n:=by simpa using hb
   split at h
   ·rename_i s hs;obtain ⟨l,hl,rfl⟩:=gV hx;obtain ⟨Y,h1,h2⟩:=oU hE h hl;refine ⟨Y,h1,fun w=>?_⟩;simp [Instr.index,asIntOf,cR hE hi w,hd,hlt,fV hE hs w,h2]
   ·cases h
  ·rename_i s hd;obtain ⟨c,hc,rfl⟩:=aR.1 h;simp only [conc] at hx;injection hx with hx;subst hx;refine ⟨.int .u8 c.toNat,by simp [conc],fun w=>?_⟩;rw [jO] at hc
   have hlt:k<s.length:=by
    rcases Nat.lt_or_ge k s.length with h|h
    ·exact h
    ·rw [List.getElem?_eq_none h] at hc;cases hc
   have hg:(⟨s.toArray⟩:ByteArray)[k]?=some c:=by
    have:k<(⟨s.toArray⟩:ByteArray).size:=by rw [jE];exact hlt
    rw [getElem?_pos (⟨s.toArray⟩:ByteArray) k this];rw [List.getElem?_eq_getElem hlt] at hc;injection hc with hc;rw [←hc]
    rfl
   simp [Instr.index,asIntOf,cR hE hi w,hd,hg]
  ·cases h
 ·cases h
theorem yS {h:H} {w:World} (hh:HR E ρ μ h w) {b o b' o':Nat} {r:Bool} (he:wM h b o b' o'=some r) {x x':Nat×Nat} (hx:μ b=some x) (hx':μ b'=some x') :
  (sameAddr ⟨x.1,o,none⟩ ⟨x'.1,o',none⟩).run P w=.ok r w:=by
 unfold wM at he
 cases hb:Nat.beq b b' with
 | true =>
  have:=aS hb;subst this;rw [hx] at hx';injection hx' with hx';subst hx';simp only [hb,cond_true] at he;injection he with he;subst he
  by_cases e:o=o'
  ·subst e;rw [run_sameAddr_same];simp
  ·have:Nat.beq o o'=false:=by
    cases hq:Nat.beq o o' with
    | false=>rfl
    | true=>exact absurd (aS hq) e
   rw [this];simp [sameAddr]
 | false =>
  have hne:b≠b':=by rintro rfl;simp at hb
  simp only [hb,cond_false] at he
  split at he
  ·rename_i t n d el k t' n' d' el' k' h1 h2
   cases hk:(Nat.ble 2 k||Nat.ble 2 k') with
   | true=>simp [hk] at he
   | false =>
    simp only [hk,cond_false] at he;injection he with he;subst he;simp only [Bool.or_eq_false_iff] at hk;have q0:∀{k:Nat},Nat.ble 2 k=false→k≠2∧k≠3:=fun h=>⟨by rintro rfl;simp at h,by rintro rfl;simp at h⟩;have q1:=q0 hk.1;have q2:=q0 hk.2;obtain ⟨y,ob,e1,e2,e3⟩:=hh.blk _ _ h1;obtain ⟨y',ob',e1',e2',e3'⟩:=hh.blk _ _ h2;rw [hx] at e1;injection e1 with e1;subst e1;rw [hx'] at e1';injection e1' with e1';subst e1'
    have hxx:=hh.inj b b' x x' (by rw [h1];rfl) (by rw [h2];rfl) hx hx' hne
    cases e3 with
    | cells hc hn h0 ho hf hf2 =>
     cases e3' with
     | cells hc' hn' h0' ho' hf' hf2' =>
      rw [hf q1.1 q1.2] at e2;rw [hf' q2.1 q2.2] at e2';exact run_sameAddr_other w (a:=⟨x.1,o,none⟩) (b:=⟨x'.1,o',none⟩) (by simp;intro h;exact absurd h hxx) e2 e2'
  ·cases he
theorem s8 {op:BinOp} {t:TypeId} {x y:Operand} {X Y:Value} (h1:X≠.nilIface) (h2:∀cs,X≠.agg cs):eqGuard op t x y X Y=pure ():=by
 cases X<;>cases op<;>first|rfl|exact absurd rfl h1|exact absurd rfl (h2 _)
theorem zV (hE:EnvOk P E) {t:Nat} {i:TI} (hi:E.tys.get t=some i) {x y:V} {r:Bool} {X Y:Value} (h:mP i.desc x y=some r) (hx:conc ρ μ x=some X) (hy:conc ρ μ y=some Y) (d:Nat) (w:World) :
  (Op.equalIn (d+1) t X Y).run P w=.ok r w:=by
 obtain ⟨_,_,_,_,pu,_⟩:=hE.ty hi;unfold mP at h
 split at h
 ·rename_i a b hd;injection h with h;subst h;simp only [conc] at hx hy;injection hx with hx;injection hy with hy;subst hx hy;exact run_equalIn_bool' w d t a b (by rw [pu,hd])
 ·rename_i kk k a k' b hd
  split at h
  ·rename_i hk;subst hk;injection h with h;subst h;simp only [conc] at hx hy;injection hx with hx;injection hy with hy;subst hx hy;rw [run_equalIn_int w d t k kk a b (by rw [pu,hd])]
   rfl
  ·cases h
 ·rename_i a b hd;injection h with h;subst h;simp only [conc] at hx hy;injection hx with hx;injection hy with hy;subst hx hy;rw [run_equalIn_string w d t _ _ (by rw [pu,hd]),ByteArray.toList_mk,ByteArray.toList_mk]
 ·cases h
theorem sD (hE:EnvOk P E) {g:Nat→V→V→Option Bool} {xs ys:List V} {X Y:List Value} (hx:cE ρ μ xs=some X) (hy:cE ρ μ ys=some Y) (d:Nat) (w:World)
  (hg:∀{t:Nat} {a b:V} {r:Bool} {A B:Value},g t a b=some r→conc ρ μ a=some A→conc ρ μ b=some B→(Op.equalIn d t A B).run P w=.ok r w):∀(fs:List Field) {r:Bool},np E g xs ys fs=some r →
  (Op.eqFields d X.toArray Y.toArray fs).run P w=.ok r w
 | [],r,h=>by injection h with h;subst h;simp [Op.eqFields]
 | f::fs,r,h=>by
  simp only [np] at h
  split at h
  ·cases h
  ·rename_i hn;have hn':f.name ≠ "_":=by simpa using hn
   split at h
   ·rename_i a b ha hb;obtain ⟨A,a1,a2⟩:=oU hE ha hx;obtain ⟨B,b1,b2⟩:=oU hE hb hy
    split at h
    ·rename_i hs;have ih:=sD hE hx hy d w hg fs h;simp [Op.eqFields,hn',a2 w,b2 w,hg hs a1 b1,ih]
    ·rename_i hs;injection h with h;subst h;simp [Op.eqFields,hn',a2 w,b2 w,hg hs a1 b1]
    ·cases h
   ·cases h
theorem sE (hE:EnvOk P E) {g:Nat→V→V→Option Bool} {xs ys:List V} {X Y:List Value} (hx:cE ρ μ xs=some X) (hy:cE ρ μ ys=some Y) (d e s:Nat) (w:World)
  (hg:∀{t:Nat} {a b:V} {r:Bool} {A B:Value},g t a b=some r→conc ρ μ a=some A→conc ρ μ b=some B→(Op.equalIn d t A B).run P w=.ok r w):∀(is:List Nat) {r:Bool},qM E g e s xs ys is=some r →
  (Op.eqItems d e s X.toArray Y.toArray is).run P w=.ok r w
 | [],r,h=>by injection h with h;subst h;simp [Op.eqItems]
 | i::is,r,h=>by
  simp only [qM] at h
  split at h
  ·rename_i a b ha hb;obtain ⟨A,a1,a2⟩:=oU hE ha hx;obtain ⟨B,b1,b2⟩:=oU hE hb hy
   split at h
   ·rename_i hs;have ih:=sE hE hx hy d e s w hg is h;simp [Op.eqItems,a2 w,b2 w,hg hs a1 b1,ih]
   ·rename_i hs;injection h with h;subst h;simp [Op.eqItems,a2 w,b2 w,hg hs a1 b1]
   ·cases h
  ·cases h
theorem vB (hE:EnvOk P E) (w:World):∀(n d:Nat) {t:Nat} {x y:V} {r:Bool} {X Y:Value},eqT E n t x y=some r→conc ρ μ x=some X→conc ρ μ y=some Y→(Op.equalIn (d+n) t X Y).run P w=.ok r w
 | 0,_,_,_,_,_,_,_,h,_,_=>by cases h
 | n+1,d,t,x,y,r,X,Y,h,hx,hy=>by
  simp only [eqT] at h
  split at h
  ·cases h
  ·rename_i i hi
   split at h
   ·rename_i fs xs ys hd;obtain ⟨hc,h⟩:=cI h;obtain ⟨lx,q1,rfl⟩:=gV hx;obtain ⟨ly,q2,rfl⟩:=gV hy;obtain ⟨_,g2⟩:=hE.eqs t hc;obtain ⟨_,_,_,_,pu,_⟩:=hE.ty hi;have hfs:P.fieldsOf t=fs:=by unfold Program.fieldsOf;rw [pu,hd]
    rw [←Nat.add_assoc,run_equalIn_struct w (d+n) t _ _ (by rw [pu,hd,hfs]) g2,hfs];exact sD hE q1 q2 (d+n) w (fun hq ha hb=>vB hE w n d hq ha hb) fs.toList h
   ·rename_i m e xs ys hd;obtain ⟨hc,h⟩:=cI h
    split at h
    ·rename_i ei hei;obtain ⟨lx,q1,rfl⟩:=gV hx;obtain ⟨ly,q2,rfl⟩:=gV hy;obtain ⟨_,_,_,_,pu,_⟩:=hE.ty hi;obtain ⟨inf,_,_,pi,_,ps,_⟩:=hE.ty hei;have hcs:P.cellsOf e=ei.size:=by unfold Program.cellsOf;rw [pi,←ps];rfl
     rw [←Nat.add_assoc,run_equalIn_array w (d+n) _ _ (by rw [pu,hd]) pi,hcs];exact sE hE q1 q2 (d+n) e ei.size w (fun hq ha hb=>vB hE w n d hq ha hb) _ h
    ·cases h
   ·exact zV hE hi h hx hy (d+n) w
theorem D9 (hE:EnvOk P E) {h:H} {w:World} (hh:HR E ρ μ h w) {ty:Nat} {x y:V} {r:Bool} {X Y:Value} (he:eqV E h ty x y=some r) (hx:conc ρ μ x=some X) (hy:conc ρ μ y=some Y) (ox oy:Operand) :
  (∀op,(eqGuard op ty ox oy X Y).run P w=.ok () w)∧(Op.equal ty X Y).run P w=.ok r w:=by
 have key:∀{t:Nat} {i:TI} {r:Bool} (X Y:Value),X≠.nilIface→(∀cs,X≠.agg cs)→(∀d,(Op.equalIn (d+1) t X Y).run P w=.ok r w) →
   (∀op,(eqGuard op t ox oy X Y).run P w=.ok () w)∧(Op.equal t X Y).run P w=.ok r w:=by
  intro t i r X Y h1 h2 h3;exact ⟨fun op=>by rw [s8 h1 h2];rfl,h3 9999⟩
 unfold eqV at he
 cases hi:E.tys.get ty with
 | none=>simp [hi] at he
 | some i =>
  simp only [hi] at he;have hu:=cR hE hi w
  split at he
  ·rename_i a b hd;injection he with he;subst he;simp only [conc] at hx hy;injection hx with hx;injection hy with hy;subst hx hy;exact key (i:=i) _ _ (by simp) (by simp) (fun d=>by simp [Op.equalIn,hu,hd])
  ·rename_i e hd;injection he with he;subst he;simp only [conc] at hx hy;injection hx with hx;injection hy with hy;subst hx hy;exact key (i:=i) _ _ (by simp) (by simp) (fun d=>by simp [Op.equalIn,hu,hd])
  ·rename_i e b o hd;injection he with he;subst he;simp only [conc] at hx;injection hx with hx;subst hx;obtain ⟨z,hz,rfl⟩:=gi hy;exact key (i:=i) _ _ (by simp) (by simp) (fun d=>by simp [Op.equalIn,hu,hd])
  ·rename_i e b o hd;injection he with he;subst he;simp only [conc] at hy;injection hy with hy;subst hy;obtain ⟨z,hz,rfl⟩:=gi hx;exact key (i:=i) _ _ (by simp) (by simp) (fun d=>by simp [Op.equalIn,hu,hd])
  ·rename_i e b o b' o' hd
   split at he
   ·rename_i j hj
    cases hz:Nat.beq j.size 0 with
    | true=>simp [hz] at he
    | false =>
     simp only [hz,cond_false] at he;have hz':¬j.size=0:=by intro e;rw [e] at hz;simp at hz
     obtain ⟨z,q1,rfl⟩:=gi hx;obtain ⟨z',q2,rfl⟩:=gi hy;exact key (i:=i) _ _ (by simp) (by simp) (fun d=>by simp [Op.equalIn,hu,hd,gO hE hj w,hz',yS hh he q1 q2])
   ·cases he
  ·rename_i ms t v hd;injection he with he;subst he;simp only [conc] at hx;injection hx with hx;subst hx;obtain ⟨z,hz,rfl⟩:=jn hy;refine ⟨fun op=>by cases op<;>rfl,?_⟩;have h3:∀d,(Op.equalIn (d+1) ty .nilIface (.iface t z)).run P w=.ok false w:=fun d=>by simp [Op.equalIn,hu,hd]
   exact h3 9999
  ·rename_i ms t v hd;injection he with he;subst he;simp only [conc] at hy;injection hy with hy;subst hy;obtain ⟨z,hz,rfl⟩:=jn hx;exact key (i:=i) _ _ (by simp) (by simp) (fun d=>by simp [Op.equalIn,hu,hd])
  ·rename_i e hd;injection he with he;subst he;simp only [conc] at hx hy;injection hx with hx;injection hy with hy;subst hx hy;exact key (i:=i) _ _ (by simp) (by simp) (fun d=>by simp [Op.equalIn,hu,hd])
  ·rename_i e b o n c hd;injection he with he;subst he;simp only [conc] at hx;injection hx with hx;subst hx;obtain ⟨z,hz,_,rfl⟩:=dI hy;exact key (i:=i) _ _ (by simp) (by simp) (fun d=>by simp [Op.equalIn,hu,hd])
  ·rename_i e ad n c hd;injection he with he;subst he;simp only [conc] at hx;injection hx with hx;subst hx;obtain ⟨_,rfl⟩:=iO hy;exact key (i:=i) _ _ (by simp) (by simp) (fun d=>by simp [Op.equalIn,hu,hd])
  ·rename_i e ad n c hd;injection he with he;subst he;simp only [conc] at hy;injection hy with hy;subst hy;obtain ⟨_,rfl⟩:=iO hx;exact key (i:=i) _ _ (by simp) (by simp) (fun d=>by simp [Op.equalIn,hu,hd])
  ·rename_i e b o n c hd;injection he with he;subst he;simp only [conc] at hy;injection hy with hy;subst hy;obtain ⟨z,hz,_,rfl⟩:=dI hx;exact key (i:=i) _ _ (by simp) (by simp) (fun d=>by simp [Op.equalIn,hu,hd])
  ·rename_i e e' hd;injection he with he;subst he;simp only [conc] at hx hy;injection hx with hx;injection hy with hy;subst hx hy;exact key (i:=i) _ _ (by simp) (by simp) (fun d=>by simp [Op.equalIn,hu,hd])
  ·rename_i e e' b hd;injection he with he;subst he;simp only [conc] at hx;injection hx with hx;subst hx;obtain ⟨z,hz,rfl⟩:=jG hy;exact key (i:=i) _ _ (by simp) (by simp) (fun d=>by simp [Op.equalIn,hu,hd])
  ·rename_i e e' b hd;injection he with he;subst he;simp only [conc] at hy;injection hy with hy;subst hy;obtain ⟨z,hz,rfl⟩:=jG hx;exact key (i:=i) _ _ (by simp) (by simp) (fun d=>by simp [Op.equalIn,hu,hd])
  ·rename_i hd;injection he with he;subst he;simp only [conc] at hx hy;injection hx with hx;injection hy with hy;subst hx hy;exact key (i:=i) _ _ (by simp) (by simp) (fun d=>by simp [Op.equalIn,hu,hd])
  ·rename_i hd;injection he with he;subst he;simp only [conc] at hx;injection hx with hx;subst hx;obtain ⟨A,C,_,_,rfl⟩:=mC hy;exact key (i:=i) _ _ (by simp) (by simp) (fun d=>by simp [Op.equalIn,hu,hd])
  ·rename_i hd;injection he with he;subst he;simp only [conc] at hy;injection hy with hy;subst hy;obtain ⟨A,C,_,_,rfl⟩:=mC hx;exact key (i:=i) _ _ (by simp) (by simp) (fun d=>by simp [Op.equalIn,hu,hd])
  ·rename_i fs xs ys hd;obtain ⟨hc,he⟩:=cI he;obtain ⟨lx,q1,rfl⟩:=gV hx;obtain ⟨ly,q2,rfl⟩:=gV hy;obtain ⟨g1,g2⟩:=hE.eqs ty hc
   refine ⟨fun op=>?_,?_⟩
   ·cases op<;>simp [eqGuard,g1]
   ·obtain ⟨_,_,_,_,pu,_⟩:=hE.ty hi;have hfs:P.fieldsOf ty=fs:=by unfold Program.fieldsOf;rw [pu,hd]
    have hall:∀d,(Op.equalIn (d+8+1) ty (.agg lx.toArray) (.agg ly.toArray)).run P w=.ok r w:=fun d=>by
     rw [run_equalIn_struct w (d+8) ty _ _ (by rw [pu,hd,hfs]) g2,hfs];exact sD hE q1 q2 (d+8) w (fun hq ha hb=>vB hE w 8 d hq ha hb) fs.toList he
    exact hall 9991
  ·rename_i m e xs ys hd;obtain ⟨hc,he⟩:=cI he
   split at he
   ·rename_i ei hei;obtain ⟨lx,q1,rfl⟩:=gV hx;obtain ⟨ly,q2,rfl⟩:=gV hy;obtain ⟨g1,g2⟩:=hE.eqs ty hc
    refine ⟨fun op=>?_,?_⟩
    ·cases op<;>simp [eqGuard,g1]
    ·obtain ⟨_,_,_,_,pu,_⟩:=hE.ty hi;obtain ⟨inf,_,_,pi,_,ps,_⟩:=hE.ty hei;have hcs:P.cellsOf e=ei.size:=by unfold Program.cellsOf;rw [pi,←ps];rfl
     have hall:∀d,(Op.equalIn (d+8+1) ty (.agg lx.toArray) (.agg ly.toArray)).run P w=.ok r w:=fun d=>by
      rw [run_equalIn_array w (d+8) _ _ (by rw [pu,hd]) pi,hcs];exact sE hE q1 q2 (d+8) e ei.size w (fun hq ha hb=>vB hE w 8 d hq ha hb) _ he
     exact hall 9991
   ·cases he
  ·cases he
end
section
variable {P : Program} {E : Env} {ρ : Rho} {μ : Mu}
theorem oF {s:Sem Value} {v:V} (h:gP s=some v):∃X,conc ρ μ v=some X∧∀w,s.run P w=.ok X w:=by
 unfold gP at h
 split at h
 ·rename_i X;exact ⟨X,kT h,fun w=>rfl⟩
 ·cases h
theorem AU {op:BinOp} {a b:List UInt8} {v:V} (h:HW op a b=some v):∃X,conc ρ μ v=some X∧∀w,(Op.stringOp op ⟨a.toArray⟩ ⟨b.toArray⟩).run P w=.ok X w:=by
 cases op<;>simp only [HW] at h<;>try (cases h;done)
 case add =>
  obtain ⟨h1,h2⟩:=cI h;have h1:=aZ h1;injection h2 with h2;subst h2;refine ⟨.string ⟨(a++b).toArray⟩,by simp [conc],fun w=>?_⟩
  have e:¬(((⟨a.toArray⟩:ByteArray).size+(⟨b.toArray⟩:ByteArray).size:Nat):Int) > IntKind.i64.max:=by
   rw [jE,jE,IntKind.max_i64];omega
  simp only [Op.stringOp];rw [if_neg e]
  have e2:(⟨a.toArray⟩:ByteArray)++⟨b.toArray⟩=⟨(a++b).toArray⟩:=by
   apply ByteArray.ext;simp
  rw [e2];rfl
 all_goals
  injection h with h;subst h;exact ⟨_,(by simp only [conc];rfl),fun w=>by simp [Op.stringOp,ByteArray.toList_mk]⟩
theorem tN {x y:Operand} (h:(iH x||iH y)=true):(∃c,x=.const c)∨∃c,y=.const c:=by
 cases x<;>cases y<;>simp [iH] at h ⊢
theorem run_bin (hE:EnvOk P E) {h:H} {w:World} (hh:HR E ρ μ h w) {op:BinOp} {ty:Nat} {x y v:V} {X Y:Value} {ox oy:Operand} (hv:fJ E h (iH ox||iH oy) op ty x y=some v)
  (hx:conc ρ μ x=some X) (hy:conc ρ μ y=some Y):∃Z,conc ρ μ v=some Z∧(do eqGuard op ty ox oy X Y;binOp op ty X Y:Sem Value).run P w=.ok Z w:=by
 unfold fJ at hv
 split at hv
 ·split at hv
  ·rename_i hk;obtain ⟨b,hb,rfl⟩:=aR.1 hv;simp only [conc] at hx hy;injection hx with hx;injection hy with hy;subst hx hy;unfold EN at hb
   split at hb
   ·rename_i i hi
    split at hb
    ·rename_i ms hd;injection hb with hb;subst hb;refine ⟨.bool true,by simp [conc],?_⟩;have h3:∀d,(Op.equalIn (d+1) ty .nilIface .nilIface).run P w=.ok true w:=fun d=>by simp [Op.equalIn,cR hE hi w,hd]
     have h4:(Op.equal ty .nilIface .nilIface).run P w=.ok true w:=h3 9999
     have h5:eqGuard .eql ty ox oy .nilIface .nilIface=pure ():=by
      rcases tN hk with ⟨c,rfl⟩|⟨c,rfl⟩
      ·rfl
      ·cases ox<;>rfl
     rw [h5];simp [binOp,h4]
    ·cases hb
   ·cases hb
  ·rename_i hk;obtain ⟨b,hb,rfl⟩:=aR.1 hv;simp only [conc] at hx hy;injection hx with hx;injection hy with hy;subst hx hy;unfold EN at hb
   split at hb
   ·rename_i i hi
    split at hb
    ·rename_i ms hd;injection hb with hb;subst hb;refine ⟨.bool false,by simp [conc],?_⟩;have h3:∀d,(Op.equalIn (d+1) ty .nilIface .nilIface).run P w=.ok true w:=fun d=>by simp [Op.equalIn,cR hE hi w,hd]
     have h4:(Op.equal ty .nilIface .nilIface).run P w=.ok true w:=h3 9999
     have h5:eqGuard .neq ty ox oy .nilIface .nilIface=pure ():=by
      rcases tN hk with ⟨c,rfl⟩|⟨c,rfl⟩
      ·rfl
      ·cases ox<;>rfl
     rw [h5];simp [binOp,h4]
    ·cases hb
   ·cases hb
  ·cases hv
 ·rename_i k a k' b;obtain ⟨Z,h1,h2⟩:=oF (P:=P) (ρ:=ρ) (μ:=μ) hv;simp only [conc] at hx hy;injection hx with hx;injection hy with hy;subst hx hy;refine ⟨Z,h1,?_⟩;rw [s8 (by simp) (by simp)];simpa using h2 w
 ·rename_i a b;obtain ⟨Z,h1,h2⟩:=AU (P:=P) (ρ:=ρ) (μ:=μ) hv;simp only [conc] at hx hy;injection hx with hx;injection hy with hy;subst hx hy;refine ⟨Z,h1,?_⟩;rw [s8 (by simp) (by simp)];have:binOp op ty (.string ⟨a.toArray⟩) (.string ⟨b.toArray⟩)=Op.stringOp op ⟨a.toArray⟩ ⟨b.toArray⟩:=by cases op<;>rfl
  rw [this];simpa using h2 w
 ·rename_i n1 n2 n3
  have go:∀{r:Bool},eqV E h ty x y=some r→(binOp .eql ty X Y=(do pure (.bool (←Op.equal ty X Y))))∧(binOp .neq ty X Y=(do pure (.bool (!(←Op.equal ty X Y))))):=by
   intro r he;unfold eqV at he
   cases hi:E.tys.get ty with
   | none=>simp [hi] at he
   | some i =>
    simp only [hi] at he
    have e1:∀k a k' b,¬(X=.int k a∧Y=.int k' b):=by
     rintro k a k' b ⟨rfl,rfl⟩
     split at he <;>
      first
       | (cases he;done)
       | (simp only [conc] at hx;injection hx with hx;cases hx;done)
       | (obtain ⟨_,_,hx⟩:=gi hx;cases hx;done)
       | (obtain ⟨_,_,hx⟩:=jn hx;cases hx;done)
       | (obtain ⟨_,_,_,hx⟩:=dI hx;cases hx;done)
       | (obtain ⟨_,hx⟩:=iO hx;cases hx;done)
       | (obtain ⟨_,_,hx⟩:=jG hx;cases hx;done)
       | (obtain ⟨_,_,_,_,hx⟩:=mC hx;cases hx;done)
       | (obtain ⟨_,_,hx⟩:=gV hx;cases hx;done)
    have e2:∀a b,¬(X=.string a∧Y=.string b):=by
     rintro a b ⟨rfl,rfl⟩
     split at he <;>
      first
       | (cases he;done)
       | (simp only [conc] at hx;injection hx with hx;cases hx;done)
       | (obtain ⟨_,_,hx⟩:=gi hx;cases hx;done)
       | (obtain ⟨_,_,hx⟩:=jn hx;cases hx;done)
       | (obtain ⟨_,_,_,hx⟩:=dI hx;cases hx;done)
       | (obtain ⟨_,hx⟩:=iO hx;cases hx;done)
       | (obtain ⟨_,_,hx⟩:=jG hx;cases hx;done)
       | (obtain ⟨_,_,_,_,hx⟩:=mC hx;cases hx;done)
       | (obtain ⟨_,_,hx⟩:=gV hx;cases hx;done)
    have e3:∀k a k' b,¬(X=.float k a∧Y=.float k' b):=by
     rintro k a k' b ⟨rfl,rfl⟩
     split at he <;>
      first
       | (cases he;done)
       | (simp only [conc] at hx;injection hx with hx;cases hx;done)
       | (obtain ⟨_,_,hx⟩:=gi hx;cases hx;done)
       | (obtain ⟨_,_,hx⟩:=jn hx;cases hx;done)
       | (obtain ⟨_,_,_,hx⟩:=dI hx;cases hx;done)
       | (obtain ⟨_,hx⟩:=iO hx;cases hx;done)
       | (obtain ⟨_,_,hx⟩:=jG hx;cases hx;done)
       | (obtain ⟨_,_,_,_,hx⟩:=mC hx;cases hx;done)
       | (obtain ⟨_,_,hx⟩:=gV hx;cases hx;done)
    have e4:∀k a b k' c d,¬(X=.complex k a b∧Y=.complex k' c d):=by
     rintro k a b k' c d ⟨rfl,rfl⟩
     split at he <;>
      first
       | (cases he;done)
       | (simp only [conc] at hx;injection hx with hx;cases hx;done)
       | (obtain ⟨_,_,hx⟩:=gi hx;cases hx;done)
       | (obtain ⟨_,_,hx⟩:=jn hx;cases hx;done)
       | (obtain ⟨_,_,_,hx⟩:=dI hx;cases hx;done)
       | (obtain ⟨_,hx⟩:=iO hx;cases hx;done)
       | (obtain ⟨_,_,hx⟩:=jG hx;cases hx;done)
       | (obtain ⟨_,_,_,_,hx⟩:=mC hx;cases hx;done)
       | (obtain ⟨_,_,hx⟩:=gV hx;cases hx;done)
    constructor
    ·cases X<;>cases Y<;>first|rfl|exact absurd ⟨rfl,rfl⟩ (e1 _ _ _ _)|exact absurd ⟨rfl,rfl⟩ (e2 _ _)|exact absurd ⟨rfl,rfl⟩ (e3 _ _ _ _)|exact absurd ⟨rfl,rfl⟩ (e4 _ _ _ _ _ _)
    ·cases X<;>cases Y<;>first|rfl|exact absurd ⟨rfl,rfl⟩ (e1 _ _ _ _)|exact absurd ⟨rfl,rfl⟩ (e2 _ _)|exact absurd ⟨rfl,rfl⟩ (e3 _ _ _ _)|exact absurd ⟨rfl,rfl⟩ (e4 _ _ _ _ _ _)
  split at hv
  ·obtain ⟨r,hr,rfl⟩:=aR.1 hv;obtain ⟨g1,g2⟩:=D9 hE hh hr hx hy ox oy;exact ⟨.bool r,by simp [conc],by rw [(go hr).1];simp [g1,g2]⟩
  ·obtain ⟨r,hr,rfl⟩:=aR.1 hv;obtain ⟨g1,g2⟩:=D9 hE hh hr hx hy ox oy;exact ⟨.bool (!r),by simp [conc],by rw [(go hr).2];simp [g1,g2]⟩
  ·cases hv
theorem run_un {op:UnOp} {x v:V} {X:Value} (h:unV op x=some v) (hx:conc ρ μ x=some X):∃Y,conc ρ μ v=some Y∧∀w,(Op.unary op X).run P w=.ok Y w:=by
 unfold unV at h
 split at h
 ·simp only [conc] at hx;injection hx with hx;subst hx;exact oF h
 ·simp only [conc] at hx;injection hx with hx;subst hx;exact oF h
 ·cases h
theorem Cf:∀(off:Nat) (cs vs:List V) {C W:List Value},cE ρ μ cs=some C→cE ρ μ vs=some W→off+vs.length≤cs.length →
  cE ρ μ (se cs off vs)=some (C.take off++W++C.drop (off+W.length))
 | 0,cs,vs,C,W,hc,hw,_=>by
  have:=dc hw;simp only [se,List.take_zero,List.nil_append,aH];rw [this];exact ku hw (s9 _ hc)
 | off+1,[],vs,C,W,hc,hw,h=>by simp at h
 | off+1,c::r,vs,C,W,hc,hw,h=>by
  obtain ⟨x,l,rfl,hx,hl⟩:=dQ hc;have ih:=Cf off r vs hl hw (by simp at h;omega);simp only [se];have e:off+1+W.length=off+W.length+1:=by omega
  rw [e];simpa using eM hx ih
theorem Hc (W:List Value):∀(off:Nat) (C:Array Value),off+W.length≤C.size →
  (W.zipIdx.foldl (fun cs (c,j)=>cs.setIfInBounds (off+j) c) C).toList=C.toList.take off++W++C.toList.drop (off+W.length):=by
 have key:∀(W:List Value) (k off:Nat) (C:Array Value),off+k+W.length≤C.size →
   ((W.zipIdx k).foldl (fun cs (c,j)=>cs.setIfInBounds (off+j) c) C).toList=C.toList.take (off+k)++W++C.toList.drop (off+k+W.length):=by
  intro W
  induction W with
  | nil=>intro k off C h;simp
  | cons x r ih =>
   intro k off C h;simp only [aO] at h;simp only [List.zipIdx_cons,List.foldl_cons];rw [show off+k+(x::r).length=off+(k+1)+r.length by simp only [aO];omega];rw [ih (k+1) off (C.setIfInBounds (off+k) x) (by simp;omega)];have hlt:off+k<C.toList.length:=by simp;omega
   rw [Array.toList_setIfInBounds,←Nat.add_assoc]
   have a1:(C.toList.set (off+k) x).take (off+k+1)=C.toList.take (off+k)++[x]:=by
    rw [bW (by simpa using hlt),List.take_set,List.set_eq_of_length_le (by simp;omega)];simp
   have a2:(C.toList.set (off+k) x).drop (off+k+1+r.length)=C.toList.drop (off+k+1+r.length):=by
    rw [List.drop_set];rw [if_pos (by omega)]
   rw [a1,a2];simp
 intro off C h;simpa using key W 0 off C (by simpa using h)
theorem kU (hp:Plain ρ) {place place':Nat→Option (Nat×Nat)}:∀{parts:List (Nat×V)} {cells out:List V} {C:List Value} {parts':List (Nat×Value)},
  (∀i x,place i=some x→place' i=some x)→cW place cells parts=some out→cE ρ μ cells=some C →
  parts.length=parts'.length→(∀(j i:Nat) v,parts[j]?=some (i,v)→∃X,parts'[j]?=some (i,X)∧conc ρ μ v=some X) →
  ∃O,cE ρ μ out=some O∧Instr.fill place' C.toArray parts'=some O.toArray
 | [],cells,out,C,parts',hpl,h,hc,hl,hparts=>by
  cases parts' with
  | nil=>simp [cW] at h;subst h;exact ⟨C,hc,rfl⟩
  | cons _ _=>simp at hl
 | (i,v)::rest,cells,out,C,parts',hpl,h,hc,hl,hparts=>by
  cases parts' with
  | nil=>simp at hl
  | cons p parts' =>
   obtain ⟨X,e1,hX⟩:=hparts 0 i v rfl;simp at e1;subst e1;simp only [cW] at h
   cases hpi:place i with
   | none=>simp [hpi] at h
   | some q =>
    obtain ⟨off,size⟩:=q;simp only [hpi] at h;obtain ⟨h1,h⟩:=cI h;obtain ⟨h2,h⟩:=cI h;have h1:=aS h1;have h2:=aZ h2;have hcv:=ic hp hX;have lv:=dc hcv;have lc:=dc hc;have hf:=Cf off cells v.cells hc hcv h2;obtain ⟨O,o1,o2⟩:=kU hp hpl h hf (by simpa using hl) (fun j i' v' e=>by simpa using hparts (j+1) i' v' e);refine ⟨O,o1,?_⟩;rw [←o2];simp only [Instr.fill,hpl i _ hpi];have sz:X.cells.size=v.cells.length:=by simpa using lv
    rw [if_neg (by
     simp only [bS,decide_eq_true_eq,not_or,List.size_toArray]
     exact ⟨by omega,by omega⟩)]
    congr 1
    apply Array.ext';rw [←Array.foldl_toList];have:=Hc X.cells.toList off C.toArray (by simp only [List.size_toArray];omega);simp only [Array.toList_zipIdx];rw [this]
end
end Go.Ev
