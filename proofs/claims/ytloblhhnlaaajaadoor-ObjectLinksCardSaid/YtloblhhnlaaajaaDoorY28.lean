/- Walks: right of an image. Printed by genr4.py. -/
import Derived.Test.YtloblhhnlaaajaaDoorY27
set_option maxHeartbeats 8000000
set_option maxRecDepth 100000
set_option linter.unusedVariables false
set_option linter.unusedSimpArgs false
set_option linter.defProp false
namespace Go.Proofs.OP
open Go Go.Ev
open Go.Proofs
open Nat renaming reduceLT → rL, reduceEqDiff → rD, reduceBEq → rB
variable {g : T (List V)}
def rZ (x:ImgD):Bool:=decide (0≤x.base)&&(decide (x.base≤2147483648)&&(decide (x.base.tmod 16=0)&&(decide ((x.bytes.length:Int)≤131072)&&(decide (0≤x.code)&&(decide (x.code≤x.bytes.length)&&((decide (x.entry=0)||(decide (x.base≤x.entry)&&decide (x.entry<x.base+x.code)))&&decide ((x.cf.length:Int)≤400)))))))
def yA (x:ImgD) (i:Nat):Bool:=match x.cg[i]? with
 | none=>true
 | some e=>decide (x.base≤e.cl)&&decide (e.cl≤x.base+x.bytes.length)
def pY (x:ImgD) (i:Nat):Bool:=match x.cb[i]? with
 | none=>true
 | some s=>decide (x.base≤s.cl)&&(decide (s.cl≤x.base+x.bytes.length - 8)&&(decide (s.cl.tmod 8=0)&&(decide (0≤s.bound)&&(decide (s.bound≤4294967296) && !((x.cb.take i).map (·.cl)).contains s.cl))))
def qz (L:List (List UInt8)) (i:Nat):Bool:=match L[i]? with
 | none=>true
 | some s=>decide (eR s=0) && !(L.take i).contains s
def gc (x:ImgD):Bool:=rZ x&&(mf (yA x) x.cg.length&&(mf (pY x) x.cb.length&&(mf (qz x.cf) x.cf.length&&(vu (x.cg.map (·.name))&&vu (x.cb.map (·.name))))))
theorem Cc {x:ImgD} (h:¬(0≤x.base∧x.base≤2147483648∧x.base.tmod 16=0∧(x.bytes.length:Int)≤131072∧0≤x.code∧x.code≤x.bytes.length∧(x.entry=0∨(x.base≤x.entry∧x.entry<x.base+x.code))∧(x.cf.length:Int)≤400)):rZ x=false:=by
 refine Bool.eq_false_iff.2 fun hh=>h ?_;simpa only [rZ,aU,bS,decide_eq_true_eq] using hh
theorem G4 {x:ImgD} (h:0≤x.base∧x.base≤2147483648∧x.base.tmod 16=0∧(x.bytes.length:Int)≤131072∧0≤x.code∧x.code≤x.bytes.length∧(x.entry=0∨(x.base≤x.entry∧x.entry<x.base+x.code))∧(x.cf.length:Int)≤400):rZ x=true:=by
 simpa only [rZ,aU,bS,decide_eq_true_eq] using h
theorem tJ {α β:Type} (f:α→β) {L:List α} {i:Nat} (hi:i<L.length):(L.take (i+1)).map f=(L.take i).map f++[f L[i]]:=by
 rw [bW hi,List.map_append,bI,List.map_nil]
theorem Gs {h:H} {b o0:Nat} {c:Ic} {x:ImgD} (hb:At h b o0 (c.cells x)) (hbn:b<h.bX) (im:Im g h (·<h.bX) c x) (fit:FitsI x):WF (E g) 52 [.ptr b o0] h fun v h'=>v=.bool (gc x)∧cH h h':=by
 have fs:=fit.cg;have fr:=fit.cb;have fn:=fit.cf;have fc:=fit.bytes;have hb:At h b o0 [i64 x.base,c.bytes,i64 x.code,i64 x.entry,c.cg,c.cb,c.cf]:=hb;have l0:cx (E g) h 2 (.ptr b (o0+0))=some (.int .i64 x.base):=hb.at ty2 rfl (j:=0) (by simp);have l2:cx (E g) h 2 (.ptr b (o0+2))=some (.int .i64 x.code):=hb.at ty2 rfl (j:=2) (by simp);have l3:cx (E g) h 2 (.ptr b (o0+3))=some (.int .i64 x.entry):=hb.at ty2 rfl (j:=3) (by simp)
 have r16:∀{h:H} {k:Bool} {ty:Nat} {a:Int},fJ (E g) h k .rem ty (.int .i64 a) (.int .i64 16)=some (.int .i64 (a.tmod 16)):=fun {h k ty a}=>pV (by decide);have r8:∀{h:H} {k:Bool} {ty:Nat} {a:Int},fJ (E g) h k .rem ty (.int .i64 a) (.int .i64 8)=some (.int .i64 (a.tmod 8)):=fun {h k ty a}=>pV (by decide);refine WF.enter fn52 rfl ?_;refine au ?_;refine ap ?_;(try simp only [aE,rL,rD,rB,reduceIte,dX,aH,hb.at cM rfl (j:=1) (by simp),im.bytes.len])
 refine ap ?_
 refine gq 6 (M:=fun fr hM=>hM=h∧∃ts,fr=⟨ts,220,[],52,none⟩∧ts.get 0=some (.ptr b o0)∧ts.get 3=some (.int .i64 x.bytes.length)∧ts.get 23=some (.bool (decide (x.base<0)))) ?_ ?_
 ·skip
  (try simp only [aE,rL,rD,rB,reduceIte,aC,un,cV,ed,eh,aH,l0,l2,l3,r16,ct])
  first|refine ⟨by trivial,_,rfl,?_,?_,?_⟩|refine ⟨_,rfl,?_,?_,?_⟩
  all_goals (try simp only [aE,rL,rD,rB,reduceIte,aH,ae])
  all_goals (first|done|rfl|trivial)
 rintro fr hM ⟨hhe,ts,rfl,t0,t3,tB⟩
 subst hM;simp only [bp,bJ]
 refine gq 7 (M:=fun fr hM=>hM=h∧∃ts,fr=⟨ts,220,[],52,none⟩∧ts.get 0=some (.ptr b o0)∧ts.get 3=some (.int .i64 x.bytes.length)∧ts.get 30=some (.bool ((decide (x.base<0)||decide ((2147483648:Int)<x.base))))) ?_ ?_
 ·skip
  cases hB:decide (x.base<0) with
  | true =>
   rw [hB] at tB;(try simp only [aE,rL,rD,rB,reduceIte,aC,un,t0,t3,hB,tB,cV,ed,eh,aH,l0,l2,l3,r16,ct])
   first|refine ⟨by trivial,_,rfl,?_,?_,?_⟩|refine ⟨_,rfl,?_,?_,?_⟩
   all_goals (try simp only [aE,rL,rD,rB,reduceIte,t0,t3,hB,tB,ae])
   all_goals (first|done|rfl|trivial)
  | false =>
   rw [hB] at tB;(try simp only [aE,rL,rD,rB,reduceIte,aC,un,t0,t3,hB,tB,cV,ed,eh,aH,l0,l2,l3,r16,ct])
   first|refine ⟨by trivial,_,rfl,?_,?_,?_⟩|refine ⟨_,rfl,?_,?_,?_⟩
   all_goals (try simp only [aE,rL,rD,rB,reduceIte,t0,t3,hB,tB,ae])
   all_goals (first|done|rfl|trivial)
 clear t0 t3 tB
 rintro fr hM ⟨hhe,ts,rfl,t0,t3,tB⟩
 subst hM;simp only [bp,bJ]
 refine gq 8 (M:=fun fr hM=>hM=h∧∃ts,fr=⟨ts,220,[],52,none⟩∧ts.get 0=some (.ptr b o0)∧ts.get 3=some (.int .i64 x.bytes.length)∧ts.get 38=some (.bool (((decide (x.base<0)||decide ((2147483648:Int)<x.base))||(x.base.tmod 16 != 0))))) ?_ ?_
 ·skip
  cases hB:(decide (x.base<0)||decide ((2147483648:Int)<x.base)) with
  | true =>
   rw [hB] at tB;(try simp only [aE,rL,rD,rB,reduceIte,aC,un,t0,t3,hB,tB,cV,ed,eh,aH,l0,l2,l3,r16,ct])
   first|refine ⟨by trivial,_,rfl,?_,?_,?_⟩|refine ⟨_,rfl,?_,?_,?_⟩
   all_goals (try simp only [aE,rL,rD,rB,reduceIte,t0,t3,hB,tB,ae])
   all_goals (first|done|rfl|trivial)
  | false =>
   rw [hB] at tB;(try simp only [aE,rL,rD,rB,reduceIte,aC,un,t0,t3,hB,tB,cV,ed,eh,aH,l0,l2,l3,r16,ct])
   first|refine ⟨by trivial,_,rfl,?_,?_,?_⟩|refine ⟨_,rfl,?_,?_,?_⟩
   all_goals (try simp only [aE,rL,rD,rB,reduceIte,t0,t3,hB,tB,ae])
   all_goals (first|done|rfl|trivial)
 clear t0 t3 tB
 rintro fr hM ⟨hhe,ts,rfl,t0,t3,tB⟩
 subst hM;simp only [bp,bJ]
 refine gq 4 (M:=fun fr hM=>hM=h∧∃ts,fr=⟨ts,220,[],52,none⟩∧ts.get 0=some (.ptr b o0)∧ts.get 3=some (.int .i64 x.bytes.length)∧ts.get 42=some (.bool ((((decide (x.base<0)||decide ((2147483648:Int)<x.base))||(x.base.tmod 16 != 0))||decide ((131072:Int)<x.bytes.length))))) ?_ ?_
 ·skip
  cases hB:((decide (x.base<0)||decide ((2147483648:Int)<x.base))||(x.base.tmod 16 != 0)) with
  | true =>
   rw [hB] at tB;(try simp only [aE,rL,rD,rB,reduceIte,aC,un,t0,t3,hB,tB,cV,ed,eh,aH,l0,l2,l3,r16,ct])
   first|refine ⟨by trivial,_,rfl,?_,?_,?_⟩|refine ⟨_,rfl,?_,?_,?_⟩
   all_goals (try simp only [aE,rL,rD,rB,reduceIte,t0,t3,hB,tB,ae])
   all_goals (first|done|rfl|trivial)
  | false =>
   rw [hB] at tB;(try simp only [aE,rL,rD,rB,reduceIte,aC,un,t0,t3,hB,tB,cV,ed,eh,aH,l0,l2,l3,r16,ct])
   first|refine ⟨by trivial,_,rfl,?_,?_,?_⟩|refine ⟨_,rfl,?_,?_,?_⟩
   all_goals (try simp only [aE,rL,rD,rB,reduceIte,t0,t3,hB,tB,ae])
   all_goals (first|done|rfl|trivial)
 clear t0 t3 tB
 rintro fr hM ⟨hhe,ts,rfl,t0,t3,tB⟩
 subst hM;simp only [bp,bJ]
 refine gq 7 (M:=fun fr hM=>hM=h∧∃ts,fr=⟨ts,220,[],52,none⟩∧ts.get 0=some (.ptr b o0)∧ts.get 3=some (.int .i64 x.bytes.length)∧ts.get 49=some (.bool (((((decide (x.base<0)||decide ((2147483648:Int)<x.base))||(x.base.tmod 16 != 0))||decide ((131072:Int)<x.bytes.length))||decide (x.code<0))))) ?_ ?_
 ·skip
  cases hB:(((decide (x.base<0)||decide ((2147483648:Int)<x.base))||(x.base.tmod 16 != 0))||decide ((131072:Int)<x.bytes.length)) with
  | true =>
   rw [hB] at tB;(try simp only [aE,rL,rD,rB,reduceIte,aC,un,t0,t3,hB,tB,cV,ed,eh,aH,l0,l2,l3,r16,ct])
   first|refine ⟨by trivial,_,rfl,?_,?_,?_⟩|refine ⟨_,rfl,?_,?_,?_⟩
   all_goals (try simp only [aE,rL,rD,rB,reduceIte,t0,t3,hB,tB,ae])
   all_goals (first|done|rfl|trivial)
  | false =>
   rw [hB] at tB;(try simp only [aE,rL,rD,rB,reduceIte,aC,un,t0,t3,hB,tB,cV,ed,eh,aH,l0,l2,l3,r16,ct])
   first|refine ⟨by trivial,_,rfl,?_,?_,?_⟩|refine ⟨_,rfl,?_,?_,?_⟩
   all_goals (try simp only [aE,rL,rD,rB,reduceIte,t0,t3,hB,tB,ae])
   all_goals (first|done|rfl|trivial)
 clear t0 t3 tB
 rintro fr hM ⟨hhe,ts,rfl,t0,t3,tB⟩
 subst hM;simp only [bp,bJ]
 refine gq 7 (M:=fun fr hM=>hM=h∧∃ts,fr=⟨ts,220,[],52,none⟩∧ts.get 0=some (.ptr b o0)∧ts.get 3=some (.int .i64 x.bytes.length)∧ts.get 56=some (.bool ((((((decide (x.base<0)||decide ((2147483648:Int)<x.base))||(x.base.tmod 16 != 0))||decide ((131072:Int)<x.bytes.length))||decide (x.code<0))||decide ((x.bytes.length:Int)<x.code))))) ?_ ?_
 ·skip
  cases hB:((((decide (x.base<0)||decide ((2147483648:Int)<x.base))||(x.base.tmod 16 != 0))||decide ((131072:Int)<x.bytes.length))||decide (x.code<0)) with
  | true =>
   rw [hB] at tB;(try simp only [aE,rL,rD,rB,reduceIte,aC,un,t0,t3,hB,tB,cV,ed,eh,aH,l0,l2,l3,r16,ct])
   first|refine ⟨by trivial,_,rfl,?_,?_,?_⟩|refine ⟨_,rfl,?_,?_,?_⟩
   all_goals (try simp only [aE,rL,rD,rB,reduceIte,t0,t3,hB,tB,ae])
   all_goals (first|done|rfl|trivial)
  | false =>
   rw [hB] at tB;(try simp only [aE,rL,rD,rB,reduceIte,aC,un,t0,t3,hB,tB,cV,ed,eh,aH,l0,l2,l3,r16,ct])
   first|refine ⟨by trivial,_,rfl,?_,?_,?_⟩|refine ⟨_,rfl,?_,?_,?_⟩
   all_goals (try simp only [aE,rL,rD,rB,reduceIte,t0,t3,hB,tB,ae])
   all_goals (first|done|rfl|trivial)
 clear t0 t3 tB
 rintro fr hM ⟨hhe,ts,rfl,t0,t3,tB⟩
 subst hM;simp only [bp,bJ];refine az ?_;refine aw ?_
 cases hH1:(((((decide (x.base<0)||decide ((2147483648:Int)<x.base))||(x.base.tmod 16 != 0))||decide ((131072:Int)<x.bytes.length))||decide (x.code<0))||decide ((x.bytes.length:Int)<x.code)) with
 | true =>
  refine WC.cond (b:=true) (by (try simp only [aE,rL,rD,rB,reduceIte,tB,hH1]);(try rfl)) ?_;refine au ?_;refine WC.ret ?_;refine az ?_;refine ⟨?_,Fix.refl _ _⟩
  have:rZ x=false:=by
   refine Cc fun hh=>?_;simp only [bS,decide_eq_true_eq,bne_iff_ne,ne_eq] at hH1;obtain ⟨a1,a2,a3,a4,a5,a6,-⟩:=hh;omega
  rw [gc,this,Bool.false_and]
 | false =>
 refine WC.cond (b:=false) (by (try simp only [aE,rL,rD,rB,reduceIte,tB,hH1]);(try rfl)) (WC.skip ?_);refine az ?_
 clear tB
 simp only [Bool.or_eq_false_iff,decide_eq_false_iff_not,bne_eq_false_iff_eq] at hH1;obtain ⟨⟨⟨⟨⟨r1,r2⟩,r3⟩,r4⟩,r5⟩,r6⟩:=hH1;have ew:IntKind.i64.wrap (x.base+x.code)=x.base+x.code:=cy (by omega) (by omega)
 ((repeat refine WC.seq ?_);refine WC.draw (plans:=Ix) (by kernel_rfl) ?_;simp only [Ix,ak])
 refine ey 33 (M:=fun fr hM=>hM=h∧∃ts,fr=⟨ts,220,[],52,none⟩∧ts.get 0=some (.ptr b o0)∧ts.get 3=some (.int .i64 x.bytes.length)∧ts.get 89=some (.bool (((x.entry != 0)&&(decide (x.entry<x.base)||decide (IntKind.i64.wrap (x.base+x.code)≤x.entry)))))) rfl ?_ ?_
 ·skip
  cases hc0:(x.entry != 0) with
  | true =>
   cases hc1:decide (x.entry<x.base) with
   | true =>
    (try simp (maxSteps:=2000000) only [aE,rL,rD,rB,reduceIte,af,Chk,aC,un,t0,t3,hc0,hc1,cV,ed,eh,eW,aH,l0,l2,l3,hb.at cD rfl (j:=6) (by simp),Sl.lenB im.cf cD rfl,ct])
    first|refine ⟨by trivial,_,rfl,?_,?_,?_⟩|refine ⟨_,rfl,?_,?_,?_⟩
    all_goals (try simp only [aE,rL,rD,rB,reduceIte,t0,t3,hc0,hc1,ae])
    all_goals (first|done|rfl|trivial)
   | false =>
    (try simp (maxSteps:=2000000) only [aE,rL,rD,rB,reduceIte,af,Chk,aC,un,t0,t3,hc0,hc1,cV,ed,eh,eW,aH,l0,l2,l3,hb.at cD rfl (j:=6) (by simp),Sl.lenB im.cf cD rfl,ct])
    first|refine ⟨by trivial,_,rfl,?_,?_,?_⟩|refine ⟨_,rfl,?_,?_,?_⟩
    all_goals (try simp only [aE,rL,rD,rB,reduceIte,t0,t3,hc0,hc1,ae])
    all_goals (first|done|rfl|trivial)
  | false =>
   (try simp (maxSteps:=2000000) only [aE,rL,rD,rB,reduceIte,af,Chk,aC,un,t0,t3,hc0,cV,ed,eh,eW,aH,l0,l2,l3,hb.at cD rfl (j:=6) (by simp),Sl.lenB im.cf cD rfl,ct])
   first|refine ⟨by trivial,_,rfl,?_,?_,?_⟩|refine ⟨_,rfl,?_,?_,?_⟩
   all_goals (try simp only [aE,rL,rD,rB,reduceIte,t0,t3,hc0,ae])
   all_goals (first|done|rfl|trivial)
 clear t0 t3
 rintro fr hM ⟨hhe,ts,rfl,t0,t3,tB⟩
 subst hM;simp only [bp,bJ]
 refine ey 7 (M:=fun fr hM=>hM=h∧∃ts,fr=⟨ts,220,[],52,none⟩∧ts.get 0=some (.ptr b o0)∧ts.get 3=some (.int .i64 x.bytes.length)∧ts.get 96=some (.bool ((((x.entry != 0)&&(decide (x.entry<x.base)||decide (IntKind.i64.wrap (x.base+x.code)≤x.entry)))||decide ((400:Int)<x.cf.length))))) rfl ?_ ?_
 ·skip
  cases hB:((x.entry != 0)&&(decide (x.entry<x.base)||decide (IntKind.i64.wrap (x.base+x.code)≤x.entry))) with
  | true =>
   rw [hB] at tB;(try simp (maxSteps:=2000000) only [aE,rL,rD,rB,reduceIte,af,Chk,aC,un,t0,t3,hB,tB,cV,ed,eh,eW,aH,l0,l2,l3,hb.at cD rfl (j:=6) (by simp),Sl.lenB im.cf cD rfl,ct])
   first|refine ⟨by trivial,_,rfl,?_,?_,?_⟩|refine ⟨_,rfl,?_,?_,?_⟩
   all_goals (try simp only [aE,rL,rD,rB,reduceIte,t0,t3,hB,tB,ae])
   all_goals (first|done|rfl|trivial)
  | false =>
   rw [hB] at tB;(try simp (maxSteps:=2000000) only [aE,rL,rD,rB,reduceIte,af,Chk,aC,un,t0,t3,hB,tB,cV,ed,eh,eW,aH,l0,l2,l3,hb.at cD rfl (j:=6) (by simp),Sl.lenB im.cf cD rfl,ct])
   first|refine ⟨by trivial,_,rfl,?_,?_,?_⟩|refine ⟨_,rfl,?_,?_,?_⟩
   all_goals (try simp only [aE,rL,rD,rB,reduceIte,t0,t3,hB,tB,ae])
   all_goals (first|done|rfl|trivial)
 clear t0 t3 tB
 rintro fr hM ⟨hhe,ts,rfl,t0,t3,tB⟩
 subst hM;simp only [bp,bJ];refine am ?_;rw [ew] at tB;refine aw ?_
 cases hH2:((((x.entry != 0)&&(decide (x.entry<x.base)||decide (x.base+x.code≤x.entry)))||decide ((400:Int)<x.cf.length))) with
 | true =>
  refine WC.cond (b:=true) (by (try simp only [aE,rL,rD,rB,reduceIte,tB,hH2]);(try rfl)) ?_;refine au ?_;refine WC.ret ?_;refine az ?_;refine ⟨?_,Fix.refl _ _⟩
  have:rZ x=false:=by
   refine Cc fun hh=>?_;simp only [bS,aU,decide_eq_true_eq,bne_iff_ne,ne_eq] at hH2;obtain ⟨a1,a2,a3,a4,a5,a6,a7,a8⟩:=hh;omega
  rw [gc,this,Bool.false_and]
 | false =>
 refine WC.cond (b:=false) (by (try simp only [aE,rL,rD,rB,reduceIte,tB,hH2]);(try rfl)) (WC.skip ?_);refine az ?_
 clear tB
 have hH:rZ x=true:=by
  refine G4 ⟨by omega,by omega,r3,by omega,by omega,by omega,?_⟩;simp only [Bool.or_eq_false_iff,Bool.and_eq_false_iff,decide_eq_false_iff_not,bne_eq_false_iff_eq] at hH2;omega
 obtain ⟨hh,hhe⟩:∃hh,hh=h:=⟨h,rfl⟩;subst h;have w1:∀n:Int,0≤n→n≤131072→IntKind.i64.wrap (x.base+n)=x.base+n:=fun n h1 h2=>cy (by omega) (by omega);have w2:IntKind.i64.wrap (x.base+x.bytes.length)=x.base+x.bytes.length:=w1 _ (by omega) (by omega);have w3:IntKind.i64.wrap (x.base+x.bytes.length - 8)=x.base+x.bytes.length - 8:=cy (by omega) (by omega);refine au ?_;refine au ?_;refine vt ?_;intro h1 m1 n1 f1
 refine az ?_;have B1:=hb.fix f1 hbn;have im1:=(im.fix f1 (fun _ h=>h)).up (K':=(·<h1.bX)) (fun _ h=>by omega);refine ap ?_;(try simp only [aE,rL,rD,rB,reduceIte,t0,gE,aH,B1.at ga rfl (j:=4) (by simp),Sl.lenB im1.cg ga rfl]);refine ao ?_
 refine WC.while (fun m fr hq=>∃ts i ev,fr=⟨ts,220,[],52,none⟩∧Fix (·<h1.bX) h1 hq∧m=x.cg.length - i∧i≤x.cg.length∧ts.get 0=some (.ptr b o0)∧ts.get 3=some (.int .i64 x.bytes.length)∧ts.get 4=some ev∧ts.get 5=some .nils∧ts.get 6=some (.map hh.bX)∧ts.get 101=some c.cg∧ts.get 102=some (.int .i64 x.cg.length)∧ts.get 103=some (.int .i64 i)∧Buf (E g) hq 9 1 ev i ((x.cg.take i).map fun e=>V.str e.name)∧In (fun b=>h1.bX≤b∧b<hq.bX) ev∧∀j,j<i→yA x j=true) ?_ ⟨_,0,.nils,rfl,Fix.refl _ _,rfl,by omega,?_,?_,?_,?_,?_,?_,?_,?_,.nil,In.nils,fun j hj=>absurd hj (Nat.not_lt_zero _)⟩
 ·rintro m fr hq ⟨ts,i,ev,rfl,fq,rfl,hi,t0,t3,t4,t5,t6,t101,t102,t103,bu,nw,hal⟩
  have xq:=fq.bX;have Bq:=B1.fix fq;have imq:=(im1.fix fq (fun x hx=>hx)).up (K':=(·<hq.bX)) (fun x hx=>by omega);refine ap ?_;(try simp only [aE,rL,rD,rB,reduceIte,t102,t103]);refine aw ?_
  by_cases hlt:i<x.cg.length
  ·refine aG (WC.skip ?_);refine az ?_;obtain ⟨p,p1,p2⟩:=imq.cg.at lj ga rfl rJ rfl (by decide) rfl hlt;have p2:=p2 hq fun _ _ _ _ _=>rfl;have hg:x.cg[i]?=some x.cg[i]:=List.getElem?_eq_getElem hlt;refine ao ?_;refine ap ?_;(try simp only [aE,rL,rD,rB,reduceIte,t101,t103,p1,p2]);refine cz rJ ?_;intro h5 b5 n5 f5;refine az ?_;refine cq b5 rJ rfl (by decide) rfl ?_;intro h6 b6 n6 f6;have b6:Has h6 hq.bX (nk x.cg[i]):=b6
   have F6:Fix (·<hq.bX) hq h6:=⟨by omega,fun c hc=>by rw [f6.ca c (by omega),f5.ca c (by omega)]⟩;have B6:=Bq.fix F6;have k0:cx (E g) h6 2 (.ptr b (o0+0))=some (.int .i64 x.base):=B6.at ty2 rfl (j:=0) (by simp);have k1:cx (E g) h6 2 (.ptr hq.bX 1)=some (.int .i64 x.cg[i].cl):=b6.at ty2 rfl 1;have k2:cx (E g) h6 9 (.ptr hq.bX 0)=some (.str x.cg[i].name):=b6.at ty9 rfl 0;refine az ?_
   ((repeat refine WC.seq ?_);refine WC.draw (plans:=Ej) (by kernel_rfl) ?_;simp only [Ej,ak])
   refine ey 8 (M:=fun fr hM=>hM=h6∧∃ts,fr=⟨ts,220,[],52,none⟩∧ts.get 0=some (.ptr b o0)∧ts.get 3=some (.int .i64 x.bytes.length)∧ts.get 4=some (ev)∧ts.get 5=some (.nils)∧ts.get 6=some (.map hh.bX)∧ts.get 8=some (.ptr hq.bX 0)∧ts.get 101=some (c.cg)∧ts.get 102=some (.int .i64 x.cg.length)∧ts.get 103=some (.int .i64 i)∧ts.get 114=some (.bool (decide (x.cg[i].cl<x.base)))) rfl ?_ ?_
   ·skip
    (try simp (maxSteps:=2000000) only [aE,rL,rD,rB,reduceIte,af,Chk,aC,un,t0,t3,t4,t5,t6,t101,t102,t103,xH,cV,aH,k0,k1,ct,w2])
    first|refine ⟨by trivial,_,rfl,?_,?_,?_,?_,?_,?_,?_,?_,?_,?_⟩|refine ⟨_,rfl,?_,?_,?_,?_,?_,?_,?_,?_,?_,?_⟩
    all_goals (try simp only [aE,rL,rD,rB,reduceIte,t0,t3,t4,t5,t6,t101,t102,t103,ae])
    all_goals (first|done|rfl|trivial)
   clear t0 t3 t4 t5 t6 t101 t102 t103
   rintro fr hM ⟨hhe,ts,rfl,t0,t3,t4,t5,t6,t8,t101,t102,t103,tB⟩
   subst hM;simp only [bp,bJ]
   refine ey 10 (M:=fun fr hM=>hM=h6∧∃ts,fr=⟨ts,220,[],52,none⟩∧ts.get 0=some (.ptr b o0)∧ts.get 3=some (.int .i64 x.bytes.length)∧ts.get 4=some (ev)∧ts.get 5=some (.nils)∧ts.get 6=some (.map hh.bX)∧ts.get 8=some (.ptr hq.bX 0)∧ts.get 101=some (c.cg)∧ts.get 102=some (.int .i64 x.cg.length)∧ts.get 103=some (.int .i64 i)∧ts.get 124=some (.bool ((decide (x.cg[i].cl<x.base)||decide (x.base+x.bytes.length<x.cg[i].cl))))) rfl ?_ ?_
   ·skip
    cases hB:decide (x.cg[i].cl<x.base) with
    | true =>
     rw [hB] at tB;(try simp (maxSteps:=2000000) only [aE,rL,rD,rB,reduceIte,af,Chk,aC,un,t0,t3,t4,t5,t6,t8,t101,t102,t103,hB,tB,xH,cV,aH,k0,k1,ct,w2])
     first|refine ⟨by trivial,_,rfl,?_,?_,?_,?_,?_,?_,?_,?_,?_,?_⟩|refine ⟨_,rfl,?_,?_,?_,?_,?_,?_,?_,?_,?_,?_⟩
     all_goals (try simp only [aE,rL,rD,rB,reduceIte,t0,t3,t4,t5,t6,t8,t101,t102,t103,hB,tB,ae])
     all_goals (first|done|rfl|trivial)
    | false =>
     rw [hB] at tB;(try simp (maxSteps:=2000000) only [aE,rL,rD,rB,reduceIte,af,Chk,aC,un,t0,t3,t4,t5,t6,t8,t101,t102,t103,hB,tB,xH,cV,aH,k0,k1,ct,w2])
     first|refine ⟨by trivial,_,rfl,?_,?_,?_,?_,?_,?_,?_,?_,?_,?_⟩|refine ⟨_,rfl,?_,?_,?_,?_,?_,?_,?_,?_,?_,?_⟩
     all_goals (try simp only [aE,rL,rD,rB,reduceIte,t0,t3,t4,t5,t6,t8,t101,t102,t103,hB,tB,ae])
     all_goals (first|done|rfl|trivial)
   clear t0 t3 t4 t5 t6 t8 t101 t102 t103 tB
   rintro fr hM ⟨hhe,ts,rfl,t0,t3,t4,t5,t6,t8,t101,t102,t103,tB⟩
   subst hM;simp only [bp,bJ];refine am ?_;refine aw ?_
   cases hB:(decide (x.cg[i].cl<x.base)||decide (x.base+x.bytes.length<x.cg[i].cl)) with
   | true =>
    refine WC.cond (b:=true) (by (try simp only [aE,rL,rD,rB,reduceIte,tB,hB]);(try rfl)) ?_;refine au ?_;refine WC.ret ?_;refine az ?_;refine ⟨?_,f1.trans ((fq.trans (F6.sub fun x hx=>by omega)).sub fun x hx=>by omega)⟩;simp only [bS,decide_eq_true_eq] at hB
    have:yA x i=false:=by
     refine Bool.eq_false_iff.2 fun h'=>?_;simp only [yA,hg,aU,decide_eq_true_eq] at h';omega
    rw [gc,hH,gI hlt this,Bool.false_and,Bool.and_false]
   | false =>
   refine WC.cond (b:=false) (by (try simp only [aE,rL,rD,rB,reduceIte,tB,hB]);(try rfl)) (WC.skip ?_);refine az ?_
   clear tB
   simp only [Bool.or_eq_false_iff,decide_eq_false_iff_not] at hB;obtain ⟨q1,q2⟩:=hB;refine ap ?_;(try simp only [aE,rL,rD,rB,reduceIte,t4,t8,DA,aH,k2]);refine dU cD rfl ty9 rfl rfl rfl ?_;intro h7 b7 n7 f7;have bu7:=(bu.fix (nw.sub fun _ hx=>hx.2) F6).fix (nw.sub fun b hx=>(by omega:b<h6.bX)) f7;(try simp only [aE,rL,rD,rB,reduceIte,t4]);refine ql bu7 (nw.sub fun b hx=>(by omega:b<h7.bX)) cD rfl cD (.inl ⟨_,rfl⟩) ty9 rfl (by decide) (by decide) b7.sl.len b7.sl.cells (by rfl) (by rfl) (by simp;omega) ?_
   intro sw h8 g8;have x8:=g8.fix.bX
   have w8:In (fun b=>h1.bX≤b∧b<h8.bX) sw:=fun b o n c e=>⟨by
    rcases g8.own _ _ _ _ e with q|⟨o,k,c,q⟩
    ·omega
    ·exact (nw _ _ _ _ q).1,g8.low _ _ _ _ e⟩
   refine ax ?_;(try simp only [aE,rL,rD,rB,reduceIte,t103,ct])
   refine ⟨_,?_,_,i+1,sw,rfl,⟨by omega,fun b hb=>?_⟩,rfl,by omega,?_⟩
   ·omega
   ·rw [g8.fix.ca b ⟨by omega,fun o m cc e=>by have:=nw _ _ _ _ e;omega⟩,f7.ca b (by omega),F6.ca b (by omega),fq.ca b hb]
   (try simp only [aE,rL,rD,rB,reduceIte,t0,t3,t5,t6,t101,t102])
   refine ⟨aD,aD,aD,aD,aD,aD,aD,?_,?_,w8,jp hal (by simp only [yA,hg];simp;omega)⟩
   ·rw [cy (by omega) (by omega)];rfl
   ·rw [tJ (fun e:ExpD=>V.str e.name) hlt];exact g8.buf
  ·refine aF (WC.exit ?_);have:i=x.cg.length:=by omega
   subst this;rw [bv] at bu;have hX:=kJ hal;refine az ?_;have bus:=bu;have nus:=nw;have Kq:cH hh hq:=f1.trans (fq.sub fun x hx=>by omega);have mq:=m1.fix fq (show hh.bX<h1.bX by omega);refine ap ?_;(try simp only [aE,rL,rD,rB,reduceIte,t0,gC,aH,Bq.at fY rfl (j:=5) (by simp),Sl.lenB imq.cb fY rfl]);refine ao ?_
   refine WC.while (fun m fr hk=>∃ts i sv,fr=⟨ts,220,[],52,none⟩∧Fix (fun b=>b<hq.bX∧b≠hh.bX) hq hk∧m=x.cb.length - i∧i≤x.cb.length∧ts.get 0=some (.ptr b o0)∧ts.get 3=some (.int .i64 x.bytes.length)∧ts.get 4=some ev∧ts.get 5=some sv∧ts.get 6=some (.map hh.bX)∧ts.get 134=some c.cb∧ts.get 135=some (.int .i64 x.cb.length)∧ts.get 136=some (.int .i64 i)∧Mi hk hh.bX ((x.cb.take i).map (·.cl))∧Buf (E g) hk 9 1 sv i ((x.cb.take i).map fun e=>V.str e.name)∧In (fun b=>hq.bX≤b∧b<hk.bX) sv∧∀j,j<i→pY x j=true) ?_ ⟨_,0,.nils,rfl,Fix.refl _ _,rfl,by omega,?_,?_,?_,?_,?_,?_,?_,?_,mq,.nil,In.nils,fun j hj=>absurd hj (Nat.not_lt_zero _)⟩
   ·rintro m fr hk ⟨ts,i,sv,rfl,fk,rfl,hi,t0,t3,t4,t5,t6,t134,t135,t136,mk,bu,nw,hal⟩
    have xk:=fk.bX;have Bk:=Bq.fix fk ⟨by omega,by omega⟩;have imk:=((im.fix f1 (fun _ h=>h)).fix fq (fun x hx=>by omega)).fix fk (fun x hx=>⟨by omega,by omega⟩);refine ap ?_;(try simp only [aE,rL,rD,rB,reduceIte,t135,t136]);refine aw ?_
    by_cases hlt:i<x.cb.length
    ·refine aG (WC.skip ?_);refine az ?_;obtain ⟨p,p1,p2⟩:=imk.cb.at iE fY rfl lJ rfl (by decide) rfl hlt;have p2:=p2 hk fun _ _ _ _ _=>rfl;have hg:x.cb[i]?=some x.cb[i]:=List.getElem?_eq_getElem hlt;refine ao ?_;refine ap ?_;(try simp only [aE,rL,rD,rB,reduceIte,t134,t136,p1,p2]);refine cz lJ ?_;intro h5 b5 n5 f5;refine az ?_;refine cq b5 lJ rfl (by decide) rfl ?_;intro h6 b6 n6 f6;have b6:Has h6 hk.bX (fU x.cb[i]):=b6
     have F6:Fix (·<hk.bX) hk h6:=⟨by omega,fun c hc=>by rw [f6.ca c (by omega),f5.ca c (by omega)]⟩;have B6:=Bk.fix F6;have m6:=mk.fix F6 (show hh.bX<hk.bX by omega);have k0:cx (E g) h6 2 (.ptr b (o0+0))=some (.int .i64 x.base):=B6.at ty2 rfl (j:=0) (by simp);have k1:cx (E g) h6 2 (.ptr hk.bX 1)=some (.int .i64 x.cb[i].cl):=b6.at ty2 rfl 1;have k2:cx (E g) h6 9 (.ptr hk.bX 0)=some (.str x.cb[i].name):=b6.at ty9 rfl 0
     have k3:cx (E g) h6 2 (.ptr hk.bX 2)=some (.int .i64 x.cb[i].bound):=b6.at ty2 rfl 2;have km:gJ (E g) h6 196 (.map hh.bX) (.int .i64 x.cb[i].cl) false=some (.bool (((x.cb.take i).map (·.cl)).contains x.cb[i].cl)):=Dj m6 ty196 rfl ty2 rfl ty4 rfl;have K6:cH hh h6:=Kq.trans ((fk.trans (F6.sub fun x hx=>by omega)).sub fun x hx=>⟨by omega,by omega⟩);refine az ?_
     ((repeat refine WC.seq ?_);refine WC.draw (plans:=Ei) (by kernel_rfl) ?_;simp only [Ei,ak])
     refine ey 8 (M:=fun fr hM=>hM=h6∧∃ts,fr=⟨ts,220,[],52,none⟩∧ts.get 0=some (.ptr b o0)∧ts.get 3=some (.int .i64 x.bytes.length)∧ts.get 4=some (ev)∧ts.get 5=some (sv)∧ts.get 6=some (.map hh.bX)∧ts.get 10=some (.ptr hk.bX 0)∧ts.get 134=some (c.cb)∧ts.get 135=some (.int .i64 x.cb.length)∧ts.get 136=some (.int .i64 i)∧ts.get 147=some (.bool (decide (x.cb[i].cl<x.base)))) rfl ?_ ?_
     ·skip
      (try simp (maxSteps:=2000000) only [aE,rL,rD,rB,reduceIte,af,Chk,aC,un,t0,t3,t4,t5,t6,t134,t135,t136,jB,jS,cV,aH,k0,k1,k3,ct,cF,w2,w3,r8,dj,km])
      first|refine ⟨by trivial,_,rfl,?_,?_,?_,?_,?_,?_,?_,?_,?_,?_⟩|refine ⟨_,rfl,?_,?_,?_,?_,?_,?_,?_,?_,?_,?_⟩
      all_goals (try simp only [aE,rL,rD,rB,reduceIte,t0,t3,t4,t5,t6,t134,t135,t136,ae])
      all_goals (first|done|rfl|trivial)
     clear t0 t3 t4 t5 t6 t134 t135 t136
     rintro fr hM ⟨hhe,ts,rfl,t0,t3,t4,t5,t6,t10,t134,t135,t136,tB⟩
     subst hM;simp only [bp,bJ]
     refine ey 12 (M:=fun fr hM=>hM=h6∧∃ts,fr=⟨ts,220,[],52,none⟩∧ts.get 0=some (.ptr b o0)∧ts.get 3=some (.int .i64 x.bytes.length)∧ts.get 4=some (ev)∧ts.get 5=some (sv)∧ts.get 6=some (.map hh.bX)∧ts.get 10=some (.ptr hk.bX 0)∧ts.get 134=some (c.cb)∧ts.get 135=some (.int .i64 x.cb.length)∧ts.get 136=some (.int .i64 i)∧ts.get 159=some (.bool ((decide (x.cb[i].cl<x.base)||decide (x.base+x.bytes.length - 8<x.cb[i].cl))))) rfl ?_ ?_
     ·skip
      cases hB:decide (x.cb[i].cl<x.base) with
      | true =>
       rw [hB] at tB;(try simp (maxSteps:=2000000) only [aE,rL,rD,rB,reduceIte,af,Chk,aC,un,t0,t3,t4,t5,t6,t10,t134,t135,t136,hB,tB,jB,jS,cV,aH,k0,k1,k3,ct,cF,w2,w3,r8,dj,km])
       first|refine ⟨by trivial,_,rfl,?_,?_,?_,?_,?_,?_,?_,?_,?_,?_⟩|refine ⟨_,rfl,?_,?_,?_,?_,?_,?_,?_,?_,?_,?_⟩
       all_goals (try simp only [aE,rL,rD,rB,reduceIte,t0,t3,t4,t5,t6,t10,t134,t135,t136,hB,tB,ae])
       all_goals (first|done|rfl|trivial)
      | false =>
       rw [hB] at tB;(try simp (maxSteps:=2000000) only [aE,rL,rD,rB,reduceIte,af,Chk,aC,un,t0,t3,t4,t5,t6,t10,t134,t135,t136,hB,tB,jB,jS,cV,aH,k0,k1,k3,ct,cF,w2,w3,r8,dj,km])
       first|refine ⟨by trivial,_,rfl,?_,?_,?_,?_,?_,?_,?_,?_,?_,?_⟩|refine ⟨_,rfl,?_,?_,?_,?_,?_,?_,?_,?_,?_,?_⟩
       all_goals (try simp only [aE,rL,rD,rB,reduceIte,t0,t3,t4,t5,t6,t10,t134,t135,t136,hB,tB,ae])
       all_goals (first|done|rfl|trivial)
     clear t0 t3 t4 t5 t6 t10 t134 t135 t136 tB
     rintro fr hM ⟨hhe,ts,rfl,t0,t3,t4,t5,t6,t10,t134,t135,t136,tB⟩
     subst hM;simp only [bp,bJ]
     refine ey 6 (M:=fun fr hM=>hM=h6∧∃ts,fr=⟨ts,220,[],52,none⟩∧ts.get 0=some (.ptr b o0)∧ts.get 3=some (.int .i64 x.bytes.length)∧ts.get 4=some (ev)∧ts.get 5=some (sv)∧ts.get 6=some (.map hh.bX)∧ts.get 10=some (.ptr hk.bX 0)∧ts.get 134=some (c.cb)∧ts.get 135=some (.int .i64 x.cb.length)∧ts.get 136=some (.int .i64 i)∧ts.get 165=some (.bool (((decide (x.cb[i].cl<x.base)||decide (x.base+x.bytes.length - 8<x.cb[i].cl))||(x.cb[i].cl.tmod 8 != 0))))) rfl ?_ ?_
     ·skip
      cases hB:(decide (x.cb[i].cl<x.base)||decide (x.base+x.bytes.length - 8<x.cb[i].cl)) with
      | true =>
       rw [hB] at tB;(try simp (maxSteps:=2000000) only [aE,rL,rD,rB,reduceIte,af,Chk,aC,un,t0,t3,t4,t5,t6,t10,t134,t135,t136,hB,tB,jB,jS,cV,aH,k0,k1,k3,ct,cF,w2,w3,r8,dj,km])
       first|refine ⟨by trivial,_,rfl,?_,?_,?_,?_,?_,?_,?_,?_,?_,?_⟩|refine ⟨_,rfl,?_,?_,?_,?_,?_,?_,?_,?_,?_,?_⟩
       all_goals (try simp only [aE,rL,rD,rB,reduceIte,t0,t3,t4,t5,t6,t10,t134,t135,t136,hB,tB,ae])
       all_goals (first|done|rfl|trivial)
      | false =>
       rw [hB] at tB;(try simp (maxSteps:=2000000) only [aE,rL,rD,rB,reduceIte,af,Chk,aC,un,t0,t3,t4,t5,t6,t10,t134,t135,t136,hB,tB,jB,jS,cV,aH,k0,k1,k3,ct,cF,w2,w3,r8,dj,km])
       first|refine ⟨by trivial,_,rfl,?_,?_,?_,?_,?_,?_,?_,?_,?_,?_⟩|refine ⟨_,rfl,?_,?_,?_,?_,?_,?_,?_,?_,?_,?_⟩
       all_goals (try simp only [aE,rL,rD,rB,reduceIte,t0,t3,t4,t5,t6,t10,t134,t135,t136,hB,tB,ae])
       all_goals (first|done|rfl|trivial)
     clear t0 t3 t4 t5 t6 t10 t134 t135 t136 tB
     rintro fr hM ⟨hhe,ts,rfl,t0,t3,t4,t5,t6,t10,t134,t135,t136,tB⟩
     subst hM;simp only [bp,bJ]
     refine ey 5 (M:=fun fr hM=>hM=h6∧∃ts,fr=⟨ts,220,[],52,none⟩∧ts.get 0=some (.ptr b o0)∧ts.get 3=some (.int .i64 x.bytes.length)∧ts.get 4=some (ev)∧ts.get 5=some (sv)∧ts.get 6=some (.map hh.bX)∧ts.get 10=some (.ptr hk.bX 0)∧ts.get 134=some (c.cb)∧ts.get 135=some (.int .i64 x.cb.length)∧ts.get 136=some (.int .i64 i)∧ts.get 170=some (.bool ((((decide (x.cb[i].cl<x.base)||decide (x.base+x.bytes.length - 8<x.cb[i].cl))||(x.cb[i].cl.tmod 8 != 0))||decide (x.cb[i].bound<0))))) rfl ?_ ?_
     ·skip
      cases hB:((decide (x.cb[i].cl<x.base)||decide (x.base+x.bytes.length - 8<x.cb[i].cl))||(x.cb[i].cl.tmod 8 != 0)) with
      | true =>
       rw [hB] at tB;(try simp (maxSteps:=2000000) only [aE,rL,rD,rB,reduceIte,af,Chk,aC,un,t0,t3,t4,t5,t6,t10,t134,t135,t136,hB,tB,jB,jS,cV,aH,k0,k1,k3,ct,cF,w2,w3,r8,dj,km])
       first|refine ⟨by trivial,_,rfl,?_,?_,?_,?_,?_,?_,?_,?_,?_,?_⟩|refine ⟨_,rfl,?_,?_,?_,?_,?_,?_,?_,?_,?_,?_⟩
       all_goals (try simp only [aE,rL,rD,rB,reduceIte,t0,t3,t4,t5,t6,t10,t134,t135,t136,hB,tB,ae])
       all_goals (first|done|rfl|trivial)
      | false =>
       rw [hB] at tB;(try simp (maxSteps:=2000000) only [aE,rL,rD,rB,reduceIte,af,Chk,aC,un,t0,t3,t4,t5,t6,t10,t134,t135,t136,hB,tB,jB,jS,cV,aH,k0,k1,k3,ct,cF,w2,w3,r8,dj,km])
       first|refine ⟨by trivial,_,rfl,?_,?_,?_,?_,?_,?_,?_,?_,?_,?_⟩|refine ⟨_,rfl,?_,?_,?_,?_,?_,?_,?_,?_,?_,?_⟩
       all_goals (try simp only [aE,rL,rD,rB,reduceIte,t0,t3,t4,t5,t6,t10,t134,t135,t136,hB,tB,ae])
       all_goals (first|done|rfl|trivial)
     clear t0 t3 t4 t5 t6 t10 t134 t135 t136 tB
     rintro fr hM ⟨hhe,ts,rfl,t0,t3,t4,t5,t6,t10,t134,t135,t136,tB⟩
     subst hM;simp only [bp,bJ]
     refine ey 5 (M:=fun fr hM=>hM=h6∧∃ts,fr=⟨ts,220,[],52,none⟩∧ts.get 0=some (.ptr b o0)∧ts.get 3=some (.int .i64 x.bytes.length)∧ts.get 4=some (ev)∧ts.get 5=some (sv)∧ts.get 6=some (.map hh.bX)∧ts.get 10=some (.ptr hk.bX 0)∧ts.get 134=some (c.cb)∧ts.get 135=some (.int .i64 x.cb.length)∧ts.get 136=some (.int .i64 i)∧ts.get 175=some (.bool (((((decide (x.cb[i].cl<x.base)||decide (x.base+x.bytes.length - 8<x.cb[i].cl))||(x.cb[i].cl.tmod 8 != 0))||decide (x.cb[i].bound<0))||decide ((4294967296:Int)<x.cb[i].bound))))) rfl ?_ ?_
     ·skip
      cases hB:(((decide (x.cb[i].cl<x.base)||decide (x.base+x.bytes.length - 8<x.cb[i].cl))||(x.cb[i].cl.tmod 8 != 0))||decide (x.cb[i].bound<0)) with
      | true =>
       rw [hB] at tB;(try simp (maxSteps:=2000000) only [aE,rL,rD,rB,reduceIte,af,Chk,aC,un,t0,t3,t4,t5,t6,t10,t134,t135,t136,hB,tB,jB,jS,cV,aH,k0,k1,k3,ct,cF,w2,w3,r8,dj,km])
       first|refine ⟨by trivial,_,rfl,?_,?_,?_,?_,?_,?_,?_,?_,?_,?_⟩|refine ⟨_,rfl,?_,?_,?_,?_,?_,?_,?_,?_,?_,?_⟩
       all_goals (try simp only [aE,rL,rD,rB,reduceIte,t0,t3,t4,t5,t6,t10,t134,t135,t136,hB,tB,ae])
       all_goals (first|done|rfl|trivial)
      | false =>
       rw [hB] at tB;(try simp (maxSteps:=2000000) only [aE,rL,rD,rB,reduceIte,af,Chk,aC,un,t0,t3,t4,t5,t6,t10,t134,t135,t136,hB,tB,jB,jS,cV,aH,k0,k1,k3,ct,cF,w2,w3,r8,dj,km])
       first|refine ⟨by trivial,_,rfl,?_,?_,?_,?_,?_,?_,?_,?_,?_,?_⟩|refine ⟨_,rfl,?_,?_,?_,?_,?_,?_,?_,?_,?_,?_⟩
       all_goals (try simp only [aE,rL,rD,rB,reduceIte,t0,t3,t4,t5,t6,t10,t134,t135,t136,hB,tB,ae])
       all_goals (first|done|rfl|trivial)
     clear t0 t3 t4 t5 t6 t10 t134 t135 t136 tB
     rintro fr hM ⟨hhe,ts,rfl,t0,t3,t4,t5,t6,t10,t134,t135,t136,tB⟩
     subst hM;simp only [bp,bJ]
     refine ey 5 (M:=fun fr hM=>hM=h6∧∃ts,fr=⟨ts,220,[],52,none⟩∧ts.get 0=some (.ptr b o0)∧ts.get 3=some (.int .i64 x.bytes.length)∧ts.get 4=some (ev)∧ts.get 5=some (sv)∧ts.get 6=some (.map hh.bX)∧ts.get 10=some (.ptr hk.bX 0)∧ts.get 134=some (c.cb)∧ts.get 135=some (.int .i64 x.cb.length)∧ts.get 136=some (.int .i64 i)∧ts.get 180=some (.bool ((((((decide (x.cb[i].cl<x.base)||decide (x.base+x.bytes.length - 8<x.cb[i].cl))||(x.cb[i].cl.tmod 8 != 0))||decide (x.cb[i].bound<0))||decide ((4294967296:Int)<x.cb[i].bound))||((x.cb.take i).map (·.cl)).contains x.cb[i].cl)))) rfl ?_ ?_
     ·skip
      cases hB:((((decide (x.cb[i].cl<x.base)||decide (x.base+x.bytes.length - 8<x.cb[i].cl))||(x.cb[i].cl.tmod 8 != 0))||decide (x.cb[i].bound<0))||decide ((4294967296:Int)<x.cb[i].bound)) with
      | true =>
       rw [hB] at tB;(try simp (maxSteps:=2000000) only [aE,rL,rD,rB,reduceIte,af,Chk,aC,un,t0,t3,t4,t5,t6,t10,t134,t135,t136,hB,tB,jB,jS,cV,aH,k0,k1,k3,ct,cF,w2,w3,r8,dj,km])
       first|refine ⟨by trivial,_,rfl,?_,?_,?_,?_,?_,?_,?_,?_,?_,?_⟩|refine ⟨_,rfl,?_,?_,?_,?_,?_,?_,?_,?_,?_,?_⟩
       all_goals (try simp only [aE,rL,rD,rB,reduceIte,t0,t3,t4,t5,t6,t10,t134,t135,t136,hB,tB,ae])
       all_goals (first|done|rfl|trivial)
      | false =>
       rw [hB] at tB;(try simp (maxSteps:=2000000) only [aE,rL,rD,rB,reduceIte,af,Chk,aC,un,t0,t3,t4,t5,t6,t10,t134,t135,t136,hB,tB,jB,jS,cV,aH,k0,k1,k3,ct,cF,w2,w3,r8,dj,km])
       first|refine ⟨by trivial,_,rfl,?_,?_,?_,?_,?_,?_,?_,?_,?_,?_⟩|refine ⟨_,rfl,?_,?_,?_,?_,?_,?_,?_,?_,?_,?_⟩
       all_goals (try simp only [aE,rL,rD,rB,reduceIte,t0,t3,t4,t5,t6,t10,t134,t135,t136,hB,tB,ae])
       all_goals (first|done|rfl|trivial)
     clear t0 t3 t4 t5 t6 t10 t134 t135 t136 tB
     rintro fr hM ⟨hhe,ts,rfl,t0,t3,t4,t5,t6,t10,t134,t135,t136,tB⟩
     subst hM;simp only [bp,bJ];refine am ?_;refine aw ?_
     cases hB:(((((decide (x.cb[i].cl<x.base)||decide (x.base+x.bytes.length - 8<x.cb[i].cl))||(x.cb[i].cl.tmod 8 != 0))||decide (x.cb[i].bound<0))||decide ((4294967296:Int)<x.cb[i].bound))||((x.cb.take i).map (·.cl)).contains x.cb[i].cl) with
     | true =>
      refine WC.cond (b:=true) (by (try simp only [aE,rL,rD,rB,reduceIte,tB,hB]);(try rfl)) ?_;refine au ?_;refine WC.ret ?_;refine az ?_;refine ⟨?_,K6⟩;simp only [bS,decide_eq_true_eq,bne_iff_ne,ne_eq] at hB
      have:pY x i=false:=by
       refine Bool.eq_false_iff.2 fun h'=>?_;simp only [pY,hg,aU,decide_eq_true_eq,Bool.not_eq_true'] at h';obtain ⟨s1,s2,s3,s4,s5,s6⟩:=h';rcases hB with (((((hB|hB)|hB)|hB)|hB)|hB)
       all_goals (first|omega|exact hB s3|(rw [s6] at hB;cases hB))
      rw [gc,hH,hX,gI hlt this,Bool.false_and,Bool.and_false,Bool.and_false]
     | false =>
     refine WC.cond (b:=false) (by (try simp only [aE,rL,rD,rB,reduceIte,tB,hB]);(try rfl)) (WC.skip ?_);refine az ?_
     clear tB
     simp only [Bool.or_eq_false_iff,decide_eq_false_iff_not,bne_eq_false_iff_eq] at hB;obtain ⟨⟨⟨⟨⟨q1,q2⟩,q3⟩,q4⟩,q5⟩,q6⟩:=hB
     have hP:pY x i=true:=by
      have q3':x.cb[i].cl.tmod 8=0:=q3;simp only [pY,hg];rw [aJ (show x.base≤x.cb[i].cl by omega),aJ (show x.cb[i].cl≤x.base+x.bytes.length - 8 by omega),aJ q3',aJ (show (0:Int)≤x.cb[i].bound by omega),aJ (show x.cb[i].bound≤4294967296 by omega),q6]
      rfl
     refine ap ?_;(try simp only [aE,rL,rD,rB,reduceIte,t6,t10,jB,aH,k1,iA]);refine wq m6 q6 ty196 rfl ty2 rfl ty4 ?_;intro hu mu nu fu;have k2u:cx (E g) hu 9 (.ptr hk.bX 0)=some (.str x.cb[i].name):=(b6.fix fu).at ty9 rfl 0;refine ax ?_;(try simp only [aE,rL,rD,rB,reduceIte,t5,t10,Dz,aH,k2u]);refine dU cD rfl ty9 rfl rfl rfl ?_;intro h7 b7 n7 f7;have bu7:=((bu.fix (nw.sub fun _ hx=>hx.2) F6).fix (nw.sub fun b hx=>(by omega:b≠hh.bX)) fu).fix (nw.sub fun b hx=>(by omega:b<hu.bX)) f7
     (try simp only [aE,rL,rD,rB,reduceIte,t5]);refine ql bu7 (nw.sub fun b hx=>(by omega:b<h7.bX)) cD rfl cD (.inl ⟨_,rfl⟩) ty9 rfl (by decide) (by decide) b7.sl.len b7.sl.cells (by rfl) (by rfl) (by simp;omega) ?_;intro sw h8 g8;have x8:=g8.fix.bX
     have w8:In (fun b=>hq.bX≤b∧b<h8.bX) sw:=fun b o n c e=>⟨by
      rcases g8.own _ _ _ _ e with q|⟨o,k,c,q⟩
      ·omega
      ·exact (nw _ _ _ _ q).1,g8.low _ _ _ _ e⟩
     refine ax ?_;(try simp only [aE,rL,rD,rB,reduceIte,t136,ct])
     refine ⟨_,?_,_,i+1,sw,rfl,⟨by omega,fun b hb=>?_⟩,rfl,by omega,?_⟩
     ·omega
     ·rw [g8.fix.ca b ⟨by omega,fun o m cc e=>by have:=nw _ _ _ _ e;omega⟩,f7.ca b (by omega),fu.ca b hb.2,F6.ca b (by omega),fk.ca b hb]
     (try simp only [aE,rL,rD,rB,reduceIte,t0,t3,t4,t6,t134,t135])
     refine ⟨aD,aD,aD,aD,aD,aD,aD,?_,?_,?_,w8,jp hal hP⟩
     ·rw [cy (by omega) (by omega)];rfl
     ·rw [tJ (fun e:SlotD=>e.cl) hlt];exact (mu.fix f7).fix g8.fix ⟨by omega,fun o m cc e=>by have:=nw _ _ _ _ e;omega⟩
     ·rw [tJ (fun e:SlotD=>V.str e.name) hlt];exact g8.buf
    ·refine aF (WC.exit ?_);have:i=x.cb.length:=by omega
     subst this;rw [bv] at bu;have hS:=kJ hal;refine az ?_;have Kk:cH hh hk:=Kq.trans (fk.sub fun x hx=>⟨by omega,by omega⟩);refine ap ?_;(try simp only [aE,rL,rD,rB,reduceIte,t0,eW,aH,Bk.at cD rfl (j:=6) (by simp),Sl.lenB imk.cf cD rfl]);refine ao ?_
     refine WC.while (fun m fr hn=>∃ts i,fr=⟨ts,220,[],52,none⟩∧hn=hk∧m=x.cf.length - i∧i≤x.cf.length∧ts.get 0=some (.ptr b o0)∧ts.get 4=some ev∧ts.get 5=some sv∧ts.get 193=some c.cf∧ts.get 194=some (.int .i64 x.cf.length)∧ts.get 195=some (.int .i64 i)∧∀j,j<i→qz x.cf j=true) ?_ ⟨_,0,rfl,rfl,rfl,by omega,?_,?_,?_,?_,?_,?_,fun j hj=>absurd hj (Nat.not_lt_zero _)⟩
     ·rintro m fr hn ⟨ts,i,rfl,rfl,rfl,hi,t0,t4,t5,t193,t194,t195,hal⟩
      refine ap ?_;(try simp only [aE,rL,rD,rB,reduceIte,t194,t195]);refine aw ?_
      by_cases hlt:i<x.cf.length
      ·refine aG (WC.skip ?_);refine az ?_;obtain ⟨p,p1,p2⟩:=imk.cf.at cD rfl ty9 rfl rfl hlt;have p2:=p2 hn fun _ _ _ _ _=>rfl;have hg:x.cf[i]?=some x.cf[i]:=List.getElem?_eq_getElem hlt;refine ao ?_;refine ap ?_;(try simp only [aE,rL,rD,rB,reduceIte,t193,t195,p1,p2])
       rcases bg (eR x.cf[i] != 0) with q1|q1
       ·refine au ?_;refine pc.mono fun v h2 ⟨e2,e2'⟩=>?_;subst e2 e2';(try simp only [aE,rL,rD,rB,reduceIte,un,q1]);refine aw ?_;refine WC.cond (b:=true) (by (try simp only [aE,rL,rD,rB,reduceIte,q1]);(try simp);(try omega)) ?_;refine au ?_;refine WC.ret ?_;refine az ?_;refine ⟨?_,Kk⟩;have q1e:¬eR x.cf[i]=0:=by simpa using q1
        rw [gc,hH,hX,hS,gI hlt (by simp only [qz,hg];rw [aK q1e];rfl),Bool.false_and,Bool.and_false,Bool.and_false,Bool.and_false]
       refine au ?_;refine pc.mono fun v h2 ⟨e2,e2'⟩=>?_;subst e2 e2';obtain ⟨s',hs1,hs2,_⟩:=Sl.sub imk.cf cD rfl (cL ty9) (lo:=none) (hi:=some i) (l:=0) (r:=i) rfl rfl (Nat.zero_le _) (by omega)
       have hs2:Ss g h2 s' (x.cf.take i):=by
        have e:(x.cf.take i).length=i:=by simp;omega
        unfold Ss Vs;rw [e,List.map_take];simpa using hs2
       have hs1:eL (E g) 30 c.cf none (some (.int .i64 i)) none=some s':=hs1;(try simp only [aE,rL,rD,rB,reduceIte,un,q1,t0,eW,aH,Bk.at cD rfl (j:=6) (by simp),hs1]);refine (pS hs2 (by rw [List.length_take];omega)).mono fun v h3 ⟨e3,e3'⟩=>?_;subst e3 e3';(try simp only [aE,rL,rD,rB,reduceIte,un,q1]);refine aw ?_
       cases hc:(x.cf.take i).contains x.cf[i] with
       | true =>
        refine WC.cond (b:=true) (by (try simp only [aE,rL,rD,rB,reduceIte,q1,hc]);(try simp);(try omega)) ?_;refine au ?_;refine WC.ret ?_;refine az ?_;refine ⟨?_,Kk⟩;rw [gc,hH,hX,hS,gI hlt (by simp only [qz,hg,hc];simp),Bool.false_and,Bool.and_false,Bool.and_false,Bool.and_false]
       | false =>
        refine WC.cond (b:=false) (by (try simp only [aE,rL,rD,rB,reduceIte,q1,hc]);(try simp);(try omega)) (WC.skip ?_);refine ax ?_;(try simp only [aE,rL,rD,rB,reduceIte,t195,ct])
        refine ⟨_,?_,_,i+1,rfl,by trivial,rfl,by omega,?_⟩
        ·omega
        (try simp only [aE,rL,rD,rB,reduceIte,t0,t4,t5,t193,t194]);refine ⟨aD,aD,aD,aD,aD,?_,jp hal (by simp only [qz,hg,hc];simp at q1;simp [q1])⟩;rw [cy (by omega) (by omega)];rfl
      ·refine aF (WC.exit ?_);have:i=x.cf.length:=by omega
       subst this;have hN:=kJ hal;refine az ?_
       have A1:Ss g hn ev (x.cg.map (·.name)):=by
        have:=(bus.fix (K:=fun b=>b<hq.bX∧b≠hh.bX) (nus.sub fun b hb=>⟨by omega,by omega⟩) fk).sl;show Sl (E g) hn 1 ev (x.cg.map (·.name)).length ((x.cg.map (·.name)).map V.str);rw [bO,List.map_map];exact this
       have A2:Ss g hn sv (x.cb.map (·.name)):=by
        have:=bu.sl;show Sl (E g) hn 1 sv (x.cb.map (·.name)).length ((x.cb.map (·.name)).map V.str);rw [bO,List.map_map];exact this
       have hR:gc x=(vu (x.cg.map (·.name))&&vu (x.cb.map (·.name))):=by
        rw [gc,hH,hX,hS,hN];simp only [Bool.true_and]
       refine ap ?_;(try simp only [aE,rL,rD,rB,reduceIte,t4]);refine (rY A1 (by rw [bO];omega)).mono fun v h2 ⟨e2,e2'⟩=>?_;subst e2 e2'
       cases hi1:vu (x.cg.map (·.name)) with
       | false =>
        (try simp only [aE,rL,rD,rB,reduceIte,un,hi1]);refine WC.ret ?_;refine az ?_;exact ⟨by rw [hR,hi1];rfl,Kk⟩
       | true =>
        (try simp only [aE,rL,rD,rB,reduceIte,un,hi1,t5]);refine (rY A2 (by rw [bO];omega)).mono fun v h3 ⟨e3,e3'⟩=>?_;subst e3 e3';refine az ?_;refine WC.ret ?_;refine az ?_;exact ⟨by rw [hR,hi1];rfl,Kk⟩
     all_goals (try simp only [aE,rL,rD,rB,reduceIte,t0,t4,t5])
     all_goals (first|trivial|rfl|simp)
   all_goals (try simp only [aE,rL,rD,rB,reduceIte,t0,t3,t4,t5,t6])
   all_goals (first|trivial|rfl|simp)
 all_goals (try simp only [aE,rL,rD,rB,reduceIte,t0,t3])
 all_goals (first|trivial|rfl|simp)
theorem H9 {h:H} {b:Nat} {c:Ic} {x:ImgD} (hb:Has h b (c.cells x)) (hbn:b<h.bX) (im:Im g h (·<h.bX) c x) (fit:FitsI x):WF (E g) 52 [.ptr b 0] h fun v h'=>v=.bool (gc x)∧cH h h':=Gs hb.at0 hbn im fit
end Go.Proofs.OP
