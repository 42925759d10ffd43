/- Walks: ref.Right. Printed by genr5.py. -/
import Derived.Test.YtloblhhnlaaajaaDoorY28
set_option maxHeartbeats 16000000
set_option maxRecDepth 100000
set_option linter.unusedVariables false
set_option linter.unusedSimpArgs false
set_option linter.defProp false
namespace Go.Proofs.OP
open Go Go.Ev
open Go.Proofs
open Nat renaming reduceLT → rL, reduceEqDiff → rD, reduceBEq → rB
variable {g : T (List V)}
def oE (x:ImgD):Bool:=decide (0≤x.base)&&(decide (x.base≤2147483648)&&(decide (x.base.tmod 16=0)&&(decide ((x.bytes.length:Int)≤131072)&&(decide (0≤x.code)&&(decide (x.code≤x.bytes.length)&&((decide (x.entry=0)||(decide (x.base≤x.entry)&&decide (x.entry<x.base+x.code)))&&(decide ((x.cg.length:Int)≤5000)&&(decide ((x.cb.length:Int)≤5000)&&decide ((x.cf.length:Int)≤400)))))))))
def yW (x:ImgD) (i:Nat):Bool:=jk (x.cg.map (·.name)) i&&yA x i
def sF (x:ImgD) (i:Nat):Bool:=jk (x.cb.map (·.name)) i&&pY x i
def kO (x:ImgD):Bool:=oE x&&(mf (yW x) x.cg.length&&(mf (sF x) x.cb.length&&mf (qz x.cf) x.cf.length))
theorem Ia {x:ImgD} (h:¬(0≤x.base∧x.base≤2147483648∧x.base.tmod 16=0∧(x.bytes.length:Int)≤131072∧0≤x.code∧x.code≤x.bytes.length∧(x.entry=0∨(x.base≤x.entry∧x.entry<x.base+x.code))∧(x.cg.length:Int)≤5000∧(x.cb.length:Int)≤5000∧(x.cf.length:Int)≤400)):oE x=false:=by
 refine Bool.eq_false_iff.2 fun hh=>h ?_;simpa only [oE,aU,bS,decide_eq_true_eq] using hh
theorem Gu {x:ImgD} (h:oE x=true):0≤x.base∧x.base≤2147483648∧x.base.tmod 16=0∧(x.bytes.length:Int)≤131072∧0≤x.code∧x.code≤x.bytes.length∧(x.entry=0∨(x.base≤x.entry∧x.entry<x.base+x.code))∧(x.cg.length:Int)≤5000∧(x.cb.length:Int)≤5000∧(x.cf.length:Int)≤400:=by
 simpa only [oE,aU,bS,decide_eq_true_eq] using h
theorem Ib {x:ImgD} (h:0≤x.base∧x.base≤2147483648∧x.base.tmod 16=0∧(x.bytes.length:Int)≤131072∧0≤x.code∧x.code≤x.bytes.length∧(x.entry=0∨(x.base≤x.entry∧x.entry<x.base+x.code))∧(x.cg.length:Int)≤5000∧(x.cb.length:Int)≤5000∧(x.cf.length:Int)≤400):oE x=true:=by
 simpa only [oE,aU,bS,decide_eq_true_eq] using h
theorem B9 {L:List (List UInt8)} {i:Nat} {s:List UInt8} (hs:L[i]?=some s) (hn:¬eR s=0):jk L i=false:=by
 simp only [jk,hs];rw [aK hn];rfl
theorem xg {L:List (List UInt8)} {i:Nat} {s:List UInt8} (hs:L[i]?=some s) (hn:eR s=0) (hz:i=0):jk L i=true:=by
 simp only [jk,hs];rw [aJ hn,aJ hz];rfl
theorem zn {L:List (List UInt8)} {i:Nat} {s p:List UInt8} (hs:L[i]?=some s) (hp:L[i - 1]?=some p) (hn:eR s=0) (hz:¬i=0):jk L i = !leS s p:=by
 simp only [jk,hs,hp];rw [aJ hn,aK hz];rfl
theorem Gp {h:H} {c:Ic} {x:ImgD} (im:Im g h (·<h.bX) c x) (fit:FitsI x):WF (E g) 58 [.agg (c.cells x)] h fun v h'=>v=.bool (kO x)∧cH h h':=by
 have fs:=fit.cg;have fr:=fit.cb;have fn:=fit.cf;have fc:=fit.bytes;have r16:∀{h:H} {k:Bool} {ty:Nat} {a:Int},fJ (E g) h k .rem ty (.int .i64 a) (.int .i64 16)=some (.int .i64 (a.tmod 16)):=fun {h k ty a}=>pV (by decide);have r8:∀{h:H} {k:Bool} {ty:Nat} {a:Int},fJ (E g) h k .rem ty (.int .i64 a) (.int .i64 8)=some (.int .i64 (a.tmod 8)):=fun {h k ty a}=>pV (by decide);refine WF.enter fn58 rfl ?_;refine au ?_
 refine eI (v:=.agg (c.cells x)) (by (try simp only [aE,rL,rD,rB,reduceIte])) ?_;intro h1 b1 n1 f1;refine az ?_;have b1:Has h1 h.bX [i64 x.base,c.bytes,i64 x.code,i64 x.entry,c.cg,c.cb,c.cf]:=b1;have im1:=(im.fix f1 (fun _ h=>h)).up (K':=(·<h1.bX)) (fun _ h=>by omega);have l0:cx (E g) h1 2 (.ptr h.bX 0)=some (.int .i64 x.base):=b1.at ty2 rfl 0;have l2:cx (E g) h1 2 (.ptr h.bX 2)=some (.int .i64 x.code):=b1.at ty2 rfl 2
 have l3:cx (E g) h1 2 (.ptr h.bX 3)=some (.int .i64 x.entry):=b1.at ty2 rfl 3;refine ap ?_;(try simp only [aE,rL,rD,rB,reduceIte,dW,aH,b1.at cM rfl,im1.bytes.len]);refine ap ?_;(try simp only [List.append_eq,List.toList_toArray,List.cons_append,List.nil_append])
 refine gq 4 (M:=fun fr hM=>hM=h1∧∃ts,fr=⟨ts,231,[],58,none⟩∧ts.get 1=some (.ptr h.bX 0)∧ts.get 3=some (.int .i64 x.bytes.length)∧ts.get 19=some (.bool (decide (x.base<0)))) ?_ ?_
 ·skip
  (try simp only [aE,rL,rD,rB,reduceIte,aC,un,cZ,dL,dB,dE,dx,dD,aH,l0,l2,l3,b1.at cD rfl,b1.at dC rfl,b1.at dp rfl,Sl.lenB im1.cg dC rfl,Sl.lenB im1.cb dp rfl,Sl.lenB im1.cf cD rfl,r16,ct])
  first|refine ⟨by trivial,_,rfl,?_,?_,?_⟩|refine ⟨_,rfl,?_,?_,?_⟩
  all_goals (try simp only [aE,rL,rD,rB,reduceIte,aH,ae])
  all_goals (first|done|rfl|trivial)
 rintro fr hM ⟨hhe,ts,rfl,t1,t3,tB⟩
 subst hM;simp only [bp,bJ]
 refine gq 5 (M:=fun fr hM=>hM=h1∧∃ts,fr=⟨ts,231,[],58,none⟩∧ts.get 1=some (.ptr h.bX 0)∧ts.get 3=some (.int .i64 x.bytes.length)∧ts.get 24=some (.bool ((decide (x.base<0)||decide ((2147483648:Int)<x.base))))) ?_ ?_
 ·skip
  cases hB:decide (x.base<0) with
  | true =>
   rw [hB] at tB;(try simp only [aE,rL,rD,rB,reduceIte,aC,un,t1,t3,hB,tB,cZ,dL,dB,dE,dx,dD,aH,l0,l2,l3,b1.at cD rfl,b1.at dC rfl,b1.at dp rfl,Sl.lenB im1.cg dC rfl,Sl.lenB im1.cb dp rfl,Sl.lenB im1.cf cD rfl,r16,ct])
   first|refine ⟨by trivial,_,rfl,?_,?_,?_⟩|refine ⟨_,rfl,?_,?_,?_⟩
   all_goals (try simp only [aE,rL,rD,rB,reduceIte,t1,t3,hB,tB,ae])
   all_goals (first|done|rfl|trivial)
  | false =>
   rw [hB] at tB;(try simp only [aE,rL,rD,rB,reduceIte,aC,un,t1,t3,hB,tB,cZ,dL,dB,dE,dx,dD,aH,l0,l2,l3,b1.at cD rfl,b1.at dC rfl,b1.at dp rfl,Sl.lenB im1.cg dC rfl,Sl.lenB im1.cb dp rfl,Sl.lenB im1.cf cD rfl,r16,ct])
   first|refine ⟨by trivial,_,rfl,?_,?_,?_⟩|refine ⟨_,rfl,?_,?_,?_⟩
   all_goals (try simp only [aE,rL,rD,rB,reduceIte,t1,t3,hB,tB,ae])
   all_goals (first|done|rfl|trivial)
 clear t1 t3 tB
 rintro fr hM ⟨hhe,ts,rfl,t1,t3,tB⟩
 subst hM;simp only [bp,bJ]
 refine gq 6 (M:=fun fr hM=>hM=h1∧∃ts,fr=⟨ts,231,[],58,none⟩∧ts.get 1=some (.ptr h.bX 0)∧ts.get 3=some (.int .i64 x.bytes.length)∧ts.get 30=some (.bool (((decide (x.base<0)||decide ((2147483648:Int)<x.base))||(x.base.tmod 16 != 0))))) ?_ ?_
 ·skip
  cases hB:(decide (x.base<0)||decide ((2147483648:Int)<x.base)) with
  | true =>
   rw [hB] at tB;(try simp only [aE,rL,rD,rB,reduceIte,aC,un,t1,t3,hB,tB,cZ,dL,dB,dE,dx,dD,aH,l0,l2,l3,b1.at cD rfl,b1.at dC rfl,b1.at dp rfl,Sl.lenB im1.cg dC rfl,Sl.lenB im1.cb dp rfl,Sl.lenB im1.cf cD rfl,r16,ct])
   first|refine ⟨by trivial,_,rfl,?_,?_,?_⟩|refine ⟨_,rfl,?_,?_,?_⟩
   all_goals (try simp only [aE,rL,rD,rB,reduceIte,t1,t3,hB,tB,ae])
   all_goals (first|done|rfl|trivial)
  | false =>
   rw [hB] at tB;(try simp only [aE,rL,rD,rB,reduceIte,aC,un,t1,t3,hB,tB,cZ,dL,dB,dE,dx,dD,aH,l0,l2,l3,b1.at cD rfl,b1.at dC rfl,b1.at dp rfl,Sl.lenB im1.cg dC rfl,Sl.lenB im1.cb dp rfl,Sl.lenB im1.cf cD rfl,r16,ct])
   first|refine ⟨by trivial,_,rfl,?_,?_,?_⟩|refine ⟨_,rfl,?_,?_,?_⟩
   all_goals (try simp only [aE,rL,rD,rB,reduceIte,t1,t3,hB,tB,ae])
   all_goals (first|done|rfl|trivial)
 clear t1 t3 tB
 rintro fr hM ⟨hhe,ts,rfl,t1,t3,tB⟩
 subst hM;simp only [bp,bJ]
 refine gq 4 (M:=fun fr hM=>hM=h1∧∃ts,fr=⟨ts,231,[],58,none⟩∧ts.get 1=some (.ptr h.bX 0)∧ts.get 3=some (.int .i64 x.bytes.length)∧ts.get 34=some (.bool ((((decide (x.base<0)||decide ((2147483648:Int)<x.base))||(x.base.tmod 16 != 0))||decide ((131072:Int)<x.bytes.length))))) ?_ ?_
 ·skip
  cases hB:((decide (x.base<0)||decide ((2147483648:Int)<x.base))||(x.base.tmod 16 != 0)) with
  | true =>
   rw [hB] at tB;(try simp only [aE,rL,rD,rB,reduceIte,aC,un,t1,t3,hB,tB,cZ,dL,dB,dE,dx,dD,aH,l0,l2,l3,b1.at cD rfl,b1.at dC rfl,b1.at dp rfl,Sl.lenB im1.cg dC rfl,Sl.lenB im1.cb dp rfl,Sl.lenB im1.cf cD rfl,r16,ct])
   first|refine ⟨by trivial,_,rfl,?_,?_,?_⟩|refine ⟨_,rfl,?_,?_,?_⟩
   all_goals (try simp only [aE,rL,rD,rB,reduceIte,t1,t3,hB,tB,ae])
   all_goals (first|done|rfl|trivial)
  | false =>
   rw [hB] at tB;(try simp only [aE,rL,rD,rB,reduceIte,aC,un,t1,t3,hB,tB,cZ,dL,dB,dE,dx,dD,aH,l0,l2,l3,b1.at cD rfl,b1.at dC rfl,b1.at dp rfl,Sl.lenB im1.cg dC rfl,Sl.lenB im1.cb dp rfl,Sl.lenB im1.cf cD rfl,r16,ct])
   first|refine ⟨by trivial,_,rfl,?_,?_,?_⟩|refine ⟨_,rfl,?_,?_,?_⟩
   all_goals (try simp only [aE,rL,rD,rB,reduceIte,t1,t3,hB,tB,ae])
   all_goals (first|done|rfl|trivial)
 clear t1 t3 tB
 rintro fr hM ⟨hhe,ts,rfl,t1,t3,tB⟩
 subst hM;simp only [bp,bJ]
 refine gq 5 (M:=fun fr hM=>hM=h1∧∃ts,fr=⟨ts,231,[],58,none⟩∧ts.get 1=some (.ptr h.bX 0)∧ts.get 3=some (.int .i64 x.bytes.length)∧ts.get 39=some (.bool (((((decide (x.base<0)||decide ((2147483648:Int)<x.base))||(x.base.tmod 16 != 0))||decide ((131072:Int)<x.bytes.length))||decide (x.code<0))))) ?_ ?_
 ·skip
  cases hB:(((decide (x.base<0)||decide ((2147483648:Int)<x.base))||(x.base.tmod 16 != 0))||decide ((131072:Int)<x.bytes.length)) with
  | true =>
   rw [hB] at tB;(try simp only [aE,rL,rD,rB,reduceIte,aC,un,t1,t3,hB,tB,cZ,dL,dB,dE,dx,dD,aH,l0,l2,l3,b1.at cD rfl,b1.at dC rfl,b1.at dp rfl,Sl.lenB im1.cg dC rfl,Sl.lenB im1.cb dp rfl,Sl.lenB im1.cf cD rfl,r16,ct])
   first|refine ⟨by trivial,_,rfl,?_,?_,?_⟩|refine ⟨_,rfl,?_,?_,?_⟩
   all_goals (try simp only [aE,rL,rD,rB,reduceIte,t1,t3,hB,tB,ae])
   all_goals (first|done|rfl|trivial)
  | false =>
   rw [hB] at tB;(try simp only [aE,rL,rD,rB,reduceIte,aC,un,t1,t3,hB,tB,cZ,dL,dB,dE,dx,dD,aH,l0,l2,l3,b1.at cD rfl,b1.at dC rfl,b1.at dp rfl,Sl.lenB im1.cg dC rfl,Sl.lenB im1.cb dp rfl,Sl.lenB im1.cf cD rfl,r16,ct])
   first|refine ⟨by trivial,_,rfl,?_,?_,?_⟩|refine ⟨_,rfl,?_,?_,?_⟩
   all_goals (try simp only [aE,rL,rD,rB,reduceIte,t1,t3,hB,tB,ae])
   all_goals (first|done|rfl|trivial)
 clear t1 t3 tB
 rintro fr hM ⟨hhe,ts,rfl,t1,t3,tB⟩
 subst hM;simp only [bp,bJ]
 refine gq 6 (M:=fun fr hM=>hM=h1∧∃ts,fr=⟨ts,231,[],58,none⟩∧ts.get 1=some (.ptr h.bX 0)∧ts.get 3=some (.int .i64 x.bytes.length)∧ts.get 45=some (.bool ((((((decide (x.base<0)||decide ((2147483648:Int)<x.base))||(x.base.tmod 16 != 0))||decide ((131072:Int)<x.bytes.length))||decide (x.code<0))||decide ((x.bytes.length:Int)<x.code))))) ?_ ?_
 ·skip
  cases hB:((((decide (x.base<0)||decide ((2147483648:Int)<x.base))||(x.base.tmod 16 != 0))||decide ((131072:Int)<x.bytes.length))||decide (x.code<0)) with
  | true =>
   rw [hB] at tB;(try simp only [aE,rL,rD,rB,reduceIte,aC,un,t1,t3,hB,tB,cZ,dL,dB,dE,dx,dD,aH,l0,l2,l3,b1.at cD rfl,b1.at dC rfl,b1.at dp rfl,Sl.lenB im1.cg dC rfl,Sl.lenB im1.cb dp rfl,Sl.lenB im1.cf cD rfl,r16,ct])
   first|refine ⟨by trivial,_,rfl,?_,?_,?_⟩|refine ⟨_,rfl,?_,?_,?_⟩
   all_goals (try simp only [aE,rL,rD,rB,reduceIte,t1,t3,hB,tB,ae])
   all_goals (first|done|rfl|trivial)
  | false =>
   rw [hB] at tB;(try simp only [aE,rL,rD,rB,reduceIte,aC,un,t1,t3,hB,tB,cZ,dL,dB,dE,dx,dD,aH,l0,l2,l3,b1.at cD rfl,b1.at dC rfl,b1.at dp rfl,Sl.lenB im1.cg dC rfl,Sl.lenB im1.cb dp rfl,Sl.lenB im1.cf cD rfl,r16,ct])
   first|refine ⟨by trivial,_,rfl,?_,?_,?_⟩|refine ⟨_,rfl,?_,?_,?_⟩
   all_goals (try simp only [aE,rL,rD,rB,reduceIte,t1,t3,hB,tB,ae])
   all_goals (first|done|rfl|trivial)
 clear t1 t3 tB
 rintro fr hM ⟨hhe,ts,rfl,t1,t3,tB⟩
 subst hM;simp only [bp,bJ]
 refine gq 22 (M:=fun fr hM=>hM=h1∧∃ts,fr=⟨ts,231,[],58,none⟩∧ts.get 1=some (.ptr h.bX 0)∧ts.get 3=some (.int .i64 x.bytes.length)∧ts.get 67=some (.bool (((((((decide (x.base<0)||decide ((2147483648:Int)<x.base))||(x.base.tmod 16 != 0))||decide ((131072:Int)<x.bytes.length))||decide (x.code<0))||decide ((x.bytes.length:Int)<x.code))||((x.entry != 0)&&(decide (x.entry<x.base)||decide (IntKind.i64.wrap (x.base+x.code)≤x.entry))))))) ?_ ?_
 ·skip
  cases hB:(((((decide (x.base<0)||decide ((2147483648:Int)<x.base))||(x.base.tmod 16 != 0))||decide ((131072:Int)<x.bytes.length))||decide (x.code<0))||decide ((x.bytes.length:Int)<x.code)) with
  | true =>
   rw [hB] at tB;(try simp only [aE,rL,rD,rB,reduceIte,aC,un,t1,t3,hB,tB,cZ,dL,dB,dE,dx,dD,aH,l0,l2,l3,b1.at cD rfl,b1.at dC rfl,b1.at dp rfl,Sl.lenB im1.cg dC rfl,Sl.lenB im1.cb dp rfl,Sl.lenB im1.cf cD rfl,r16,ct])
   first|refine ⟨by trivial,_,rfl,?_,?_,?_⟩|refine ⟨_,rfl,?_,?_,?_⟩
   all_goals (try simp only [aE,rL,rD,rB,reduceIte,t1,t3,hB,tB,ae])
   all_goals (first|done|rfl|trivial)
  | false =>
   rw [hB] at tB
   cases hc2:(x.entry != 0) with
   | true =>
    cases hc3:decide (x.entry<x.base) with
    | true =>
     (try simp only [aE,rL,rD,rB,reduceIte,aC,un,t1,t3,hB,tB,hc2,hc3,cZ,dL,dB,dE,dx,dD,aH,l0,l2,l3,b1.at cD rfl,b1.at dC rfl,b1.at dp rfl,Sl.lenB im1.cg dC rfl,Sl.lenB im1.cb dp rfl,Sl.lenB im1.cf cD rfl,r16,ct])
     first|refine ⟨by trivial,_,rfl,?_,?_,?_⟩|refine ⟨_,rfl,?_,?_,?_⟩
     all_goals (try simp only [aE,rL,rD,rB,reduceIte,t1,t3,hB,tB,hc2,hc3,ae])
     all_goals (first|done|rfl|trivial)
    | false =>
     (try simp only [aE,rL,rD,rB,reduceIte,aC,un,t1,t3,hB,tB,hc2,hc3,cZ,dL,dB,dE,dx,dD,aH,l0,l2,l3,b1.at cD rfl,b1.at dC rfl,b1.at dp rfl,Sl.lenB im1.cg dC rfl,Sl.lenB im1.cb dp rfl,Sl.lenB im1.cf cD rfl,r16,ct])
     first|refine ⟨by trivial,_,rfl,?_,?_,?_⟩|refine ⟨_,rfl,?_,?_,?_⟩
     all_goals (try simp only [aE,rL,rD,rB,reduceIte,t1,t3,hB,tB,hc2,hc3,ae])
     all_goals (first|done|rfl|trivial)
   | false =>
    (try simp only [aE,rL,rD,rB,reduceIte,aC,un,t1,t3,hB,tB,hc2,cZ,dL,dB,dE,dx,dD,aH,l0,l2,l3,b1.at cD rfl,b1.at dC rfl,b1.at dp rfl,Sl.lenB im1.cg dC rfl,Sl.lenB im1.cb dp rfl,Sl.lenB im1.cf cD rfl,r16,ct])
    first|refine ⟨by trivial,_,rfl,?_,?_,?_⟩|refine ⟨_,rfl,?_,?_,?_⟩
    all_goals (try simp only [aE,rL,rD,rB,reduceIte,t1,t3,hB,tB,hc2,ae])
    all_goals (first|done|rfl|trivial)
 clear t1 t3 tB
 rintro fr hM ⟨hhe,ts,rfl,t1,t3,tB⟩
 subst hM;simp only [bp,bJ]
 refine gq 6 (M:=fun fr hM=>hM=h1∧∃ts,fr=⟨ts,231,[],58,none⟩∧ts.get 1=some (.ptr h.bX 0)∧ts.get 3=some (.int .i64 x.bytes.length)∧ts.get 73=some (.bool ((((((((decide (x.base<0)||decide ((2147483648:Int)<x.base))||(x.base.tmod 16 != 0))||decide ((131072:Int)<x.bytes.length))||decide (x.code<0))||decide ((x.bytes.length:Int)<x.code))||((x.entry != 0)&&(decide (x.entry<x.base)||decide (IntKind.i64.wrap (x.base+x.code)≤x.entry))))||decide ((5000:Int)<x.cg.length))))) ?_ ?_
 ·skip
  cases hB:((((((decide (x.base<0)||decide ((2147483648:Int)<x.base))||(x.base.tmod 16 != 0))||decide ((131072:Int)<x.bytes.length))||decide (x.code<0))||decide ((x.bytes.length:Int)<x.code))||((x.entry != 0)&&(decide (x.entry<x.base)||decide (IntKind.i64.wrap (x.base+x.code)≤x.entry)))) with
  | true =>
   rw [hB] at tB;(try simp only [aE,rL,rD,rB,reduceIte,aC,un,t1,t3,hB,tB,cZ,dL,dB,dE,dx,dD,aH,l0,l2,l3,b1.at cD rfl,b1.at dC rfl,b1.at dp rfl,Sl.lenB im1.cg dC rfl,Sl.lenB im1.cb dp rfl,Sl.lenB im1.cf cD rfl,r16,ct])
   first|refine ⟨by trivial,_,rfl,?_,?_,?_⟩|refine ⟨_,rfl,?_,?_,?_⟩
   all_goals (try simp only [aE,rL,rD,rB,reduceIte,t1,t3,hB,tB,ae])
   all_goals (first|done|rfl|trivial)
  | false =>
   rw [hB] at tB;(try simp only [aE,rL,rD,rB,reduceIte,aC,un,t1,t3,hB,tB,cZ,dL,dB,dE,dx,dD,aH,l0,l2,l3,b1.at cD rfl,b1.at dC rfl,b1.at dp rfl,Sl.lenB im1.cg dC rfl,Sl.lenB im1.cb dp rfl,Sl.lenB im1.cf cD rfl,r16,ct])
   first|refine ⟨by trivial,_,rfl,?_,?_,?_⟩|refine ⟨_,rfl,?_,?_,?_⟩
   all_goals (try simp only [aE,rL,rD,rB,reduceIte,t1,t3,hB,tB,ae])
   all_goals (first|done|rfl|trivial)
 clear t1 t3 tB
 rintro fr hM ⟨hhe,ts,rfl,t1,t3,tB⟩
 subst hM;simp only [bp,bJ]
 refine gq 6 (M:=fun fr hM=>hM=h1∧∃ts,fr=⟨ts,231,[],58,none⟩∧ts.get 1=some (.ptr h.bX 0)∧ts.get 3=some (.int .i64 x.bytes.length)∧ts.get 79=some (.bool (((((((((decide (x.base<0)||decide ((2147483648:Int)<x.base))||(x.base.tmod 16 != 0))||decide ((131072:Int)<x.bytes.length))||decide (x.code<0))||decide ((x.bytes.length:Int)<x.code))||((x.entry != 0)&&(decide (x.entry<x.base)||decide (IntKind.i64.wrap (x.base+x.code)≤x.entry))))||decide ((5000:Int)<x.cg.length))||decide ((5000:Int)<x.cb.length))))) ?_ ?_
 ·skip
  cases hB:(((((((decide (x.base<0)||decide ((2147483648:Int)<x.base))||(x.base.tmod 16 != 0))||decide ((131072:Int)<x.bytes.length))||decide (x.code<0))||decide ((x.bytes.length:Int)<x.code))||((x.entry != 0)&&(decide (x.entry<x.base)||decide (IntKind.i64.wrap (x.base+x.code)≤x.entry))))||decide ((5000:Int)<x.cg.length)) with
  | true =>
   rw [hB] at tB;(try simp only [aE,rL,rD,rB,reduceIte,aC,un,t1,t3,hB,tB,cZ,dL,dB,dE,dx,dD,aH,l0,l2,l3,b1.at cD rfl,b1.at dC rfl,b1.at dp rfl,Sl.lenB im1.cg dC rfl,Sl.lenB im1.cb dp rfl,Sl.lenB im1.cf cD rfl,r16,ct])
   first|refine ⟨by trivial,_,rfl,?_,?_,?_⟩|refine ⟨_,rfl,?_,?_,?_⟩
   all_goals (try simp only [aE,rL,rD,rB,reduceIte,t1,t3,hB,tB,ae])
   all_goals (first|done|rfl|trivial)
  | false =>
   rw [hB] at tB;(try simp only [aE,rL,rD,rB,reduceIte,aC,un,t1,t3,hB,tB,cZ,dL,dB,dE,dx,dD,aH,l0,l2,l3,b1.at cD rfl,b1.at dC rfl,b1.at dp rfl,Sl.lenB im1.cg dC rfl,Sl.lenB im1.cb dp rfl,Sl.lenB im1.cf cD rfl,r16,ct])
   first|refine ⟨by trivial,_,rfl,?_,?_,?_⟩|refine ⟨_,rfl,?_,?_,?_⟩
   all_goals (try simp only [aE,rL,rD,rB,reduceIte,t1,t3,hB,tB,ae])
   all_goals (first|done|rfl|trivial)
 clear t1 t3 tB
 rintro fr hM ⟨hhe,ts,rfl,t1,t3,tB⟩
 subst hM;simp only [bp,bJ]
 refine gq 5 (M:=fun fr hM=>hM=h1∧∃ts,fr=⟨ts,231,[],58,none⟩∧ts.get 1=some (.ptr h.bX 0)∧ts.get 3=some (.int .i64 x.bytes.length)∧ts.get 84=some (.bool ((((((((((decide (x.base<0)||decide ((2147483648:Int)<x.base))||(x.base.tmod 16 != 0))||decide ((131072:Int)<x.bytes.length))||decide (x.code<0))||decide ((x.bytes.length:Int)<x.code))||((x.entry != 0)&&(decide (x.entry<x.base)||decide (IntKind.i64.wrap (x.base+x.code)≤x.entry))))||decide ((5000:Int)<x.cg.length))||decide ((5000:Int)<x.cb.length))||decide ((400:Int)<x.cf.length))))) ?_ ?_
 ·skip
  cases hB:((((((((decide (x.base<0)||decide ((2147483648:Int)<x.base))||(x.base.tmod 16 != 0))||decide ((131072:Int)<x.bytes.length))||decide (x.code<0))||decide ((x.bytes.length:Int)<x.code))||((x.entry != 0)&&(decide (x.entry<x.base)||decide (IntKind.i64.wrap (x.base+x.code)≤x.entry))))||decide ((5000:Int)<x.cg.length))||decide ((5000:Int)<x.cb.length)) with
  | true =>
   rw [hB] at tB;(try simp only [aE,rL,rD,rB,reduceIte,aC,un,t1,t3,hB,tB,cZ,dL,dB,dE,dx,dD,aH,l0,l2,l3,b1.at cD rfl,b1.at dC rfl,b1.at dp rfl,Sl.lenB im1.cg dC rfl,Sl.lenB im1.cb dp rfl,Sl.lenB im1.cf cD rfl,r16,ct])
   first|refine ⟨by trivial,_,rfl,?_,?_,?_⟩|refine ⟨_,rfl,?_,?_,?_⟩
   all_goals (try simp only [aE,rL,rD,rB,reduceIte,t1,t3,hB,tB,ae])
   all_goals (first|done|rfl|trivial)
  | false =>
   rw [hB] at tB;(try simp only [aE,rL,rD,rB,reduceIte,aC,un,t1,t3,hB,tB,cZ,dL,dB,dE,dx,dD,aH,l0,l2,l3,b1.at cD rfl,b1.at dC rfl,b1.at dp rfl,Sl.lenB im1.cg dC rfl,Sl.lenB im1.cb dp rfl,Sl.lenB im1.cf cD rfl,r16,ct])
   first|refine ⟨by trivial,_,rfl,?_,?_,?_⟩|refine ⟨_,rfl,?_,?_,?_⟩
   all_goals (try simp only [aE,rL,rD,rB,reduceIte,t1,t3,hB,tB,ae])
   all_goals (first|done|rfl|trivial)
 clear t1 t3 tB
 rintro fr hM ⟨hhe,ts,rfl,t1,t3,tB⟩
 subst hM;simp only [bp,bJ];refine az ?_;refine aw ?_
 cases hH1:(((((((((decide (x.base<0)||decide ((2147483648:Int)<x.base))||(x.base.tmod 16 != 0))||decide ((131072:Int)<x.bytes.length))||decide (x.code<0))||decide ((x.bytes.length:Int)<x.code))||((x.entry != 0)&&(decide (x.entry<x.base)||decide (IntKind.i64.wrap (x.base+x.code)≤x.entry))))||decide ((5000:Int)<x.cg.length))||decide ((5000:Int)<x.cb.length))||decide ((400:Int)<x.cf.length)) with
 | true =>
  refine WC.cond (b:=true) (by (try simp only [aE,rL,rD,rB,reduceIte,tB,hH1]);(try rfl)) ?_;refine au ?_;refine WC.ret ?_;refine az ?_;refine ⟨?_,f1⟩
  have:oE x=false:=by
   refine Ia fun hh=>?_;simp only [bS,aU,decide_eq_true_eq,bne_iff_ne,ne_eq] at hH1;obtain ⟨a1,a2,a3,a4,a5,a6,a7,a8,a9,a10⟩:=hh;have ew:IntKind.i64.wrap (x.base+x.code)=x.base+x.code:=cy (by omega) (by omega);rw [ew] at hH1;omega
  rw [kO,this,Bool.false_and]
 | false =>
 refine WC.cond (b:=false) (by (try simp only [aE,rL,rD,rB,reduceIte,tB,hH1]);(try rfl)) (WC.skip ?_);refine az ?_
 clear tB
 have hH:oE x=true:=by
  simp only [Bool.or_eq_false_iff,Bool.and_eq_false_iff,decide_eq_false_iff_not,bne_eq_false_iff_eq] at hH1;obtain ⟨⟨⟨⟨⟨⟨⟨⟨⟨r1,r2⟩,r3⟩,r4⟩,r5⟩,r6⟩,r7⟩,r8⟩,r9⟩,r10⟩:=hH1;have ew:IntKind.i64.wrap (x.base+x.code)=x.base+x.code:=cy (by omega) (by omega);rw [ew] at r7;exact Ib ⟨by omega,by omega,r3,by omega,by omega,by omega,by omega,by omega,by omega,by omega⟩
 clear hH1
 obtain ⟨hh,hhe⟩:∃hh,hh=h1:=⟨h1,rfl⟩;subst h1;obtain ⟨a1,a2,a3,a4,a5,a6,-,a8,a9,a10⟩:=Gu hH;have w2:IntKind.i64.wrap (x.base+x.bytes.length)=x.base+x.bytes.length:=cy (by omega) (by omega);have w3:IntKind.i64.wrap (x.base+x.bytes.length - 8)=x.base+x.bytes.length - 8:=cy (by omega) (by omega);refine ap ?_;(try simp only [aE,rL,rD,rB,reduceIte,t1,dE,aH,b1.at dC rfl,Sl.lenB im1.cg dC rfl]);refine ao ?_
 refine WC.while (fun m fr hq=>∃ts i,fr=⟨ts,231,[],58,none⟩∧Fix (·<hh.bX) hh hq∧m=x.cg.length - i∧i≤x.cg.length∧ts.get 1=some (.ptr h.bX 0)∧ts.get 3=some (.int .i64 x.bytes.length)∧ts.get 86=some c.cg∧ts.get 87=some (.int .i64 x.cg.length)∧ts.get 88=some (.int .i64 i)∧∀j,j<i→yW x j=true) ?_ ⟨_,0,rfl,Fix.refl _ _,rfl,by omega,?_,?_,?_,?_,?_,fun j hj=>absurd hj (Nat.not_lt_zero _)⟩
 ·rintro m fr hq ⟨ts,i,rfl,fq,rfl,hi,t1,t3,t86,t87,t88,hal⟩
  have xq:=fq.bX;have Bq:=b1.fix fq;have imq:=(im1.fix fq (fun x hx=>hx)).up (K':=(·<hq.bX)) (fun x hx=>by omega);refine ap ?_;(try simp only [aE,rL,rD,rB,reduceIte,t87,t88]);refine aw ?_
  by_cases hlt:i<x.cg.length
  ·refine aG (WC.skip ?_);refine az ?_;obtain ⟨p,p1,p2⟩:=imq.cg.at lj dC rfl nN rfl (by decide) rfl hlt;have p2:=p2 hq fun _ _ _ _ _=>rfl;have hg:x.cg[i]?=some x.cg[i]:=List.getElem?_eq_getElem hlt;refine ao ?_;refine ap ?_;(try simp only [aE,rL,rD,rB,reduceIte,t86,t88,p1,p2]);refine cz nN ?_;intro h5 b5 n5 f5;refine az ?_;refine cq b5 nN rfl (by decide) rfl ?_;intro h6 b6 n6 f6;have b6:Has h6 hq.bX (nk x.cg[i]):=b6
   have F6:Fix (·<hq.bX) hq h6:=⟨by omega,fun c hc=>by rw [f6.ca c (by omega),f5.ca c (by omega)]⟩;have B6:=Bq.fix F6;have im6:=imq.fix F6 (fun x hx=>hx);have k0:cx (E g) h6 2 (.ptr h.bX 0)=some (.int .i64 x.base):=B6.at ty2 rfl 0;have k1:cx (E g) h6 2 (.ptr hq.bX 1)=some (.int .i64 x.cg[i].cl):=b6.at ty2 rfl 1;have k2:cx (E g) h6 9 (.ptr hq.bX 0)=some (.str x.cg[i].name):=b6.at ty9 rfl 0;have K6:cH h h6:=f1.trans ((fq.trans (F6.sub fun x hx=>by omega)).sub fun x hx=>by omega)
   refine az ?_;have hm:(x.cg.map (·.name))[i]?=some x.cg[i].name:=by rw [List.getElem?_map,hg];rfl
   ((repeat refine WC.seq ?_);refine WC.draw (plans:=Iu) (by kernel_rfl) ?_;simp only [Iu,ak])
   refine ey 21 (M:=fun fr hM=>hM=h6∧∃ts,fr=⟨ts,231,[],58,none⟩∧ts.get 113=some (.bool (!jk (x.cg.map (·.name)) i))∧ts.get 1=some (.ptr h.bX 0)∧ts.get 3=some (.int .i64 x.bytes.length)∧ts.get 4=some (.int .i64 i)∧ts.get 5=some (.ptr hq.bX 0)∧ts.get 86=some c.cg∧ts.get 87=some (.int .i64 x.cg.length)∧ts.get 88=some (.int .i64 i)) rfl ?_ ?_
   ·skip
    rcases bg (eR x.cg[i].name != 0) with q1|q1
    ·have q1e:¬eR x.cg[i].name=0:=by simpa using q1
     (try simp (maxSteps:=2000000) only [aE,rL,rD,rB,reduceIte,af,Chk,aC,un,t1,kV,aH,k2]);refine js.mono fun v hx ⟨e2,e2'⟩=>?_;subst e2 e2';(try simp (maxSteps:=2000000) only [aE,rL,rD,rB,reduceIte,af,Chk,un,t1,kV,aH,k2,q1])
     first|refine ⟨by trivial,_,rfl,?_⟩|refine ⟨_,rfl,?_⟩
     (try simp only [aE,rL,rD,rB,reduceIte,t1,t3,t86,t87,t88]);rw [B9 hm q1e];exact ⟨by trivial,by trivial,by trivial,by trivial,by trivial,by trivial,by trivial,by trivial⟩
    ·have q1e:eR x.cg[i].name=0:=by simpa using q1
     by_cases hz:i=0
     ·have hpos:decide ((0:Int)<(i:Int))=false:=aK (by omega);(try simp (maxSteps:=2000000) only [aE,rL,rD,rB,reduceIte,af,Chk,aC,un,t1,kV,aH,k2]);refine js.mono fun v hx ⟨e2,e2'⟩=>?_;subst e2 e2';(try simp (maxSteps:=2000000) only [aE,rL,rD,rB,reduceIte,af,Chk,un,t1,kV,aH,k2,q1,hpos])
      first|refine ⟨by trivial,_,rfl,?_⟩|refine ⟨_,rfl,?_⟩
      (try simp only [aE,rL,rD,rB,reduceIte,t1,t3,t86,t87,t88]);rw [xg hm q1e hz];exact ⟨by trivial,by trivial,by trivial,by trivial,by trivial,by trivial,by trivial,by trivial⟩
     ·have hlt':i - 1<x.cg.length:=by omega
      have hpos:decide ((0:Int)<(i:Int))=true:=aJ (by omega);have ew:IntKind.i64.wrap ((i:Int) - 1)=((i - 1:Nat):Int):=by rw [cy (by omega) (by omega)];omega
      have hm':(x.cg.map (·.name))[i - 1]?=some x.cg[i - 1].name:=by rw [List.getElem?_map,List.getElem?_eq_getElem hlt'];rfl
      obtain ⟨mk,po,hmk,u1,u2⟩:=Rcs.spot im6.cg lj dC rfl nN rfl (by decide) hlt';have u2:=u2 h6 fun _ _ _ _ _=>rfl;have a0:cu (E g) 135 (mk po) 0=some (mk (po+0)):=by rcases hmk with ⟨b,hb⟩|⟨b,hb⟩<;>simp only [hb,kV,fg135_0]
      have u0:cx (E g) h6 9 (mk (po+0))=some (.str x.cg[i - 1].name):=u2 0 (by decide) 9 _ ty9 rfl;(try simp (maxSteps:=2000000) only [aE,rL,rD,rB,reduceIte,af,Chk,aC,un,t1,kV,aH,k2]);refine js.mono fun v hx ⟨e2,e2'⟩=>?_;subst e2 e2';(try simp (maxSteps:=2000000) only [aE,rL,rD,rB,reduceIte,af,Chk,un,t1,kV,dE,dx,aH,k2,q1,hpos,B6.at dC rfl,cF,ew,u1,a0,u0,ya])
      first|refine ⟨by trivial,_,rfl,?_⟩|refine ⟨_,rfl,?_⟩
      (try simp only [aE,rL,rD,rB,reduceIte,t1,t3,t86,t87,t88]);rw [zn hm hm' q1e hz,Bool.not_not];exact ⟨by trivial,by trivial,by trivial,by trivial,by trivial,by trivial,by trivial,by trivial⟩
   rintro fr hx ⟨hhe,ts,rfl,tB,t1,t3,t4,t5,t86,t87,t88⟩
   subst hx;simp only [bp,bJ]
   refine ey 7 (M:=fun fr hM=>hM=h6∧∃ts,fr=⟨ts,231,[],58,none⟩∧ts.get 1=some (.ptr h.bX 0)∧ts.get 3=some (.int .i64 x.bytes.length)∧ts.get 5=some (.ptr hq.bX 0)∧ts.get 86=some (c.cg)∧ts.get 87=some (.int .i64 x.cg.length)∧ts.get 88=some (.int .i64 i)∧ts.get 120=some (.bool (((!jk (x.cg.map (·.name)) i)||decide (x.cg[i].cl<x.base))))) rfl ?_ ?_
   ·skip
    cases hB:(!jk (x.cg.map (·.name)) i) with
    | true =>
     rw [hB] at tB;(try simp (maxSteps:=2000000) only [aE,rL,rD,rB,reduceIte,af,Chk,aC,un,t1,t3,t5,t86,t87,t88,hB,tB,pQ,cZ,aH,k0,k1,ct,w2])
     first|refine ⟨by trivial,_,rfl,?_,?_,?_,?_,?_,?_,?_⟩|refine ⟨_,rfl,?_,?_,?_,?_,?_,?_,?_⟩
     all_goals (try simp only [aE,rL,rD,rB,reduceIte,t1,t3,t5,t86,t87,t88,hB,tB,ae])
     all_goals (first|done|rfl|trivial)
    | false =>
     rw [hB] at tB;(try simp (maxSteps:=2000000) only [aE,rL,rD,rB,reduceIte,af,Chk,aC,un,t1,t3,t5,t86,t87,t88,hB,tB,pQ,cZ,aH,k0,k1,ct,w2])
     first|refine ⟨by trivial,_,rfl,?_,?_,?_,?_,?_,?_,?_⟩|refine ⟨_,rfl,?_,?_,?_,?_,?_,?_,?_⟩
     all_goals (try simp only [aE,rL,rD,rB,reduceIte,t1,t3,t5,t86,t87,t88,hB,tB,ae])
     all_goals (first|done|rfl|trivial)
   clear t1 t3 t5 t86 t87 t88 tB
   rintro fr hM ⟨hhe,ts,rfl,t1,t3,t5,t86,t87,t88,tB⟩
   subst hM;simp only [bp,bJ]
   refine ey 8 (M:=fun fr hM=>hM=h6∧∃ts,fr=⟨ts,231,[],58,none⟩∧ts.get 1=some (.ptr h.bX 0)∧ts.get 3=some (.int .i64 x.bytes.length)∧ts.get 5=some (.ptr hq.bX 0)∧ts.get 86=some (c.cg)∧ts.get 87=some (.int .i64 x.cg.length)∧ts.get 88=some (.int .i64 i)∧ts.get 128=some (.bool ((((!jk (x.cg.map (·.name)) i)||decide (x.cg[i].cl<x.base))||decide (x.base+x.bytes.length<x.cg[i].cl))))) rfl ?_ ?_
   ·skip
    cases hB:((!jk (x.cg.map (·.name)) i)||decide (x.cg[i].cl<x.base)) with
    | true =>
     rw [hB] at tB;(try simp (maxSteps:=2000000) only [aE,rL,rD,rB,reduceIte,af,Chk,aC,un,t1,t3,t5,t86,t87,t88,hB,tB,pQ,cZ,aH,k0,k1,ct,w2])
     first|refine ⟨by trivial,_,rfl,?_,?_,?_,?_,?_,?_,?_⟩|refine ⟨_,rfl,?_,?_,?_,?_,?_,?_,?_⟩
     all_goals (try simp only [aE,rL,rD,rB,reduceIte,t1,t3,t5,t86,t87,t88,hB,tB,ae])
     all_goals (first|done|rfl|trivial)
    | false =>
     rw [hB] at tB;(try simp (maxSteps:=2000000) only [aE,rL,rD,rB,reduceIte,af,Chk,aC,un,t1,t3,t5,t86,t87,t88,hB,tB,pQ,cZ,aH,k0,k1,ct,w2])
     first|refine ⟨by trivial,_,rfl,?_,?_,?_,?_,?_,?_,?_⟩|refine ⟨_,rfl,?_,?_,?_,?_,?_,?_,?_⟩
     all_goals (try simp only [aE,rL,rD,rB,reduceIte,t1,t3,t5,t86,t87,t88,hB,tB,ae])
     all_goals (first|done|rfl|trivial)
   clear t1 t3 t5 t86 t87 t88 tB
   rintro fr hM ⟨hhe,ts,rfl,t1,t3,t5,t86,t87,t88,tB⟩
   subst hM;simp only [bp,bJ];refine am ?_;refine aw ?_
   cases hB:(((!jk (x.cg.map (·.name)) i)||decide (x.cg[i].cl<x.base))||decide (x.base+x.bytes.length<x.cg[i].cl)) with
   | true =>
    refine WC.cond (b:=true) (by (try simp only [aE,rL,rD,rB,reduceIte,tB,hB]);(try rfl)) ?_;refine au ?_;refine WC.ret ?_;refine az ?_;refine ⟨?_,K6⟩;simp only [bS,decide_eq_true_eq,Bool.not_eq_true'] at hB
    have:yW x i=false:=by
     refine Bool.eq_false_iff.2 fun h'=>?_;simp only [yW,yA,hg,aU,decide_eq_true_eq] at h';obtain ⟨s1,s2,s3⟩:=h'
     rcases hB with ((hB|hB)|hB)
     ·rw [s1] at hB;cases hB
     ·omega
     ·omega
    rw [kO,hH,gI hlt this,Bool.false_and,Bool.and_false]
   | false =>
   refine WC.cond (b:=false) (by (try simp only [aE,rL,rD,rB,reduceIte,tB,hB]);(try rfl)) (WC.skip ?_);refine az ?_
   clear tB
   simp only [Bool.or_eq_false_iff,decide_eq_false_iff_not,Bool.not_eq_false'] at hB;obtain ⟨⟨hI,q1⟩,q2⟩:=hB;refine ap ?_;(try simp only [aE,rL,rD,rB,reduceIte,t88,ct])
   refine ⟨_,?_,_,i+1,rfl,fq.trans (F6.sub fun x hx=>by omega),rfl,by omega,?_⟩
   ·omega
   (try simp only [aE,rL,rD,rB,reduceIte,t1,t3,t86,t87]);refine ⟨aD,aD,aD,aD,?_,jp hal (by simp only [yW,yA,hI,hg];simp;omega)⟩;rw [cy (by omega) (by omega)];rfl
  ·refine aF (WC.exit ?_);have:i=x.cg.length:=by omega
   subst this;have hX:=kJ hal;refine az ?_;have Kq:cH h hq:=f1.trans (fq.sub fun x hx=>by omega)
   clear t86 t87 t88 hal
   refine ap ?_;(try simp only [aE,rL,rD,rB,reduceIte,t1,dx,aH,Bq.at dp rfl,Sl.lenB imq.cb dp rfl]);refine ao ?_
   refine WC.while (fun m fr hk=>∃ts i,fr=⟨ts,231,[],58,none⟩∧Fix (·<hq.bX) hq hk∧m=x.cb.length - i∧i≤x.cb.length∧ts.get 1=some (.ptr h.bX 0)∧ts.get 3=some (.int .i64 x.bytes.length)∧ts.get 131=some c.cb∧ts.get 132=some (.int .i64 x.cb.length)∧ts.get 133=some (.int .i64 i)∧∀j,j<i→sF x j=true) ?_ ⟨_,0,rfl,Fix.refl _ _,rfl,by omega,?_,?_,?_,?_,?_,fun j hj=>absurd hj (Nat.not_lt_zero _)⟩
   ·rintro m fr hk ⟨ts,i,rfl,fk,rfl,hi,t1,t3,t131,t132,t133,hal⟩
    have xk:=fk.bX;have Bk:=Bq.fix fk;have imk:=(imq.fix fk (fun x hx=>hx)).up (K':=(·<hk.bX)) (fun x hx=>by omega);refine ap ?_;(try simp only [aE,rL,rD,rB,reduceIte,t132,t133]);refine aw ?_
    by_cases hlt:i<x.cb.length
    ·refine aG (WC.skip ?_);refine az ?_;obtain ⟨p,p1,p2⟩:=imk.cb.at iE dp rfl kZ rfl (by decide) rfl hlt;have p2:=p2 hk fun _ _ _ _ _=>rfl;have hg:x.cb[i]?=some x.cb[i]:=List.getElem?_eq_getElem hlt;refine ao ?_;refine ap ?_;(try simp only [aE,rL,rD,rB,reduceIte,t131,t133,p1,p2]);refine cz kZ ?_;intro h5 b5 n5 f5;refine az ?_;refine cq b5 kZ rfl (by decide) rfl ?_;intro h6 b6 n6 f6;have b6:Has h6 hk.bX (fU x.cb[i]):=b6
     have F6:Fix (·<hk.bX) hk h6:=⟨by omega,fun c hc=>by rw [f6.ca c (by omega),f5.ca c (by omega)]⟩;have B6:=Bk.fix F6;have im6:=imk.fix F6 (fun x hx=>hx);have k0:cx (E g) h6 2 (.ptr h.bX 0)=some (.int .i64 x.base):=B6.at ty2 rfl 0;have k1:cx (E g) h6 2 (.ptr hk.bX 1)=some (.int .i64 x.cb[i].cl):=b6.at ty2 rfl 1;have k2:cx (E g) h6 9 (.ptr hk.bX 0)=some (.str x.cb[i].name):=b6.at ty9 rfl 0;have k3:cx (E g) h6 2 (.ptr hk.bX 2)=some (.int .i64 x.cb[i].bound):=b6.at ty2 rfl 2
     have K6:cH h h6:=Kq.trans ((fk.trans (F6.sub fun x hx=>by omega)).sub fun x hx=>by omega);refine az ?_;have hm:(x.cb.map (·.name))[i]?=some x.cb[i].name:=by rw [List.getElem?_map,hg];rfl
     ((repeat refine WC.seq ?_);refine WC.draw (plans:=Eh) (by kernel_rfl) ?_;simp only [Eh,ak])
     refine ey 21 (M:=fun fr hM=>hM=h6∧∃ts,fr=⟨ts,231,[],58,none⟩∧ts.get 158=some (.bool (!jk (x.cb.map (·.name)) i))∧ts.get 1=some (.ptr h.bX 0)∧ts.get 3=some (.int .i64 x.bytes.length)∧ts.get 6=some (.int .i64 i)∧ts.get 7=some (.ptr hk.bX 0)∧ts.get 131=some c.cb∧ts.get 132=some (.int .i64 x.cb.length)∧ts.get 133=some (.int .i64 i)) rfl ?_ ?_
     ·skip
      rcases bg (eR x.cb[i].name != 0) with q1|q1
      ·have q1e:¬eR x.cb[i].name=0:=by simpa using q1
       (try simp (maxSteps:=2000000) only [aE,rL,rD,rB,reduceIte,af,Chk,aC,un,t1,kg,aH,k2]);refine js.mono fun v hx ⟨e2,e2'⟩=>?_;subst e2 e2';(try simp (maxSteps:=2000000) only [aE,rL,rD,rB,reduceIte,af,Chk,un,t1,kg,aH,k2,q1])
       first|refine ⟨by trivial,_,rfl,?_⟩|refine ⟨_,rfl,?_⟩
       (try simp only [aE,rL,rD,rB,reduceIte,t1,t3,t131,t132,t133]);rw [B9 hm q1e];exact ⟨by trivial,by trivial,by trivial,by trivial,by trivial,by trivial,by trivial,by trivial⟩
      ·have q1e:eR x.cb[i].name=0:=by simpa using q1
       by_cases hz:i=0
       ·have hpos:decide ((0:Int)<(i:Int))=false:=aK (by omega);(try simp (maxSteps:=2000000) only [aE,rL,rD,rB,reduceIte,af,Chk,aC,un,t1,kg,aH,k2]);refine js.mono fun v hx ⟨e2,e2'⟩=>?_;subst e2 e2';(try simp (maxSteps:=2000000) only [aE,rL,rD,rB,reduceIte,af,Chk,un,t1,kg,aH,k2,q1,hpos])
        first|refine ⟨by trivial,_,rfl,?_⟩|refine ⟨_,rfl,?_⟩
        (try simp only [aE,rL,rD,rB,reduceIte,t1,t3,t131,t132,t133]);rw [xg hm q1e hz];exact ⟨by trivial,by trivial,by trivial,by trivial,by trivial,by trivial,by trivial,by trivial⟩
       ·have hlt':i - 1<x.cb.length:=by omega
        have hpos:decide ((0:Int)<(i:Int))=true:=aJ (by omega);have ew:IntKind.i64.wrap ((i:Int) - 1)=((i - 1:Nat):Int):=by rw [cy (by omega) (by omega)];omega
        have hm':(x.cb.map (·.name))[i - 1]?=some x.cb[i - 1].name:=by rw [List.getElem?_map,List.getElem?_eq_getElem hlt'];rfl
        obtain ⟨mk,po,hmk,u1,u2⟩:=Rcs.spot im6.cb iE dp rfl kZ rfl (by decide) hlt';have u2:=u2 h6 fun _ _ _ _ _=>rfl;have a0:cu (E g) 136 (mk po) 0=some (mk (po+0)):=by rcases hmk with ⟨b,hb⟩|⟨b,hb⟩<;>simp only [hb,kg,fg136_0]
        have u0:cx (E g) h6 9 (mk (po+0))=some (.str x.cb[i - 1].name):=u2 0 (by decide) 9 _ ty9 rfl;(try simp (maxSteps:=2000000) only [aE,rL,rD,rB,reduceIte,af,Chk,aC,un,t1,kg,aH,k2]);refine js.mono fun v hx ⟨e2,e2'⟩=>?_;subst e2 e2';(try simp (maxSteps:=2000000) only [aE,rL,rD,rB,reduceIte,af,Chk,un,t1,kg,dE,dx,aH,k2,q1,hpos,B6.at dp rfl,cF,ew,u1,a0,u0,ya])
        first|refine ⟨by trivial,_,rfl,?_⟩|refine ⟨_,rfl,?_⟩
        (try simp only [aE,rL,rD,rB,reduceIte,t1,t3,t131,t132,t133]);rw [zn hm hm' q1e hz,Bool.not_not];exact ⟨by trivial,by trivial,by trivial,by trivial,by trivial,by trivial,by trivial,by trivial⟩
     rintro fr hx ⟨hhe,ts,rfl,tB,t1,t3,t6,t7,t131,t132,t133⟩
     subst hx;simp only [bp,bJ]
     refine ey 7 (M:=fun fr hM=>hM=h6∧∃ts,fr=⟨ts,231,[],58,none⟩∧ts.get 1=some (.ptr h.bX 0)∧ts.get 3=some (.int .i64 x.bytes.length)∧ts.get 6=some (.int .i64 i)∧ts.get 7=some (.ptr hk.bX 0)∧ts.get 131=some (c.cb)∧ts.get 132=some (.int .i64 x.cb.length)∧ts.get 133=some (.int .i64 i)∧ts.get 165=some (.bool (((!jk (x.cb.map (·.name)) i)||decide (x.cb[i].cl<x.base))))) rfl ?_ ?_
     ·skip
      cases hB:(!jk (x.cb.map (·.name)) i) with
      | true =>
       rw [hB] at tB;(try simp (maxSteps:=2000000) only [aE,rL,rD,rB,reduceIte,af,Chk,aC,un,t1,t3,t6,t7,t131,t132,t133,hB,tB,il,jb,cZ,aH,k0,k1,k3,ct,cF,w2,w3,r8])
       first|refine ⟨by trivial,_,rfl,?_,?_,?_,?_,?_,?_,?_,?_⟩|refine ⟨_,rfl,?_,?_,?_,?_,?_,?_,?_,?_⟩
       all_goals (try simp only [aE,rL,rD,rB,reduceIte,t1,t3,t6,t7,t131,t132,t133,hB,tB,ae])
       all_goals (first|done|rfl|trivial)
      | false =>
       rw [hB] at tB;(try simp (maxSteps:=2000000) only [aE,rL,rD,rB,reduceIte,af,Chk,aC,un,t1,t3,t6,t7,t131,t132,t133,hB,tB,il,jb,cZ,aH,k0,k1,k3,ct,cF,w2,w3,r8])
       first|refine ⟨by trivial,_,rfl,?_,?_,?_,?_,?_,?_,?_,?_⟩|refine ⟨_,rfl,?_,?_,?_,?_,?_,?_,?_,?_⟩
       all_goals (try simp only [aE,rL,rD,rB,reduceIte,t1,t3,t6,t7,t131,t132,t133,hB,tB,ae])
       all_goals (first|done|rfl|trivial)
     clear t1 t3 t6 t7 t131 t132 t133 tB
     rintro fr hM ⟨hhe,ts,rfl,t1,t3,t6,t7,t131,t132,t133,tB⟩
     subst hM;simp only [bp,bJ]
     refine ey 10 (M:=fun fr hM=>hM=h6∧∃ts,fr=⟨ts,231,[],58,none⟩∧ts.get 1=some (.ptr h.bX 0)∧ts.get 3=some (.int .i64 x.bytes.length)∧ts.get 6=some (.int .i64 i)∧ts.get 7=some (.ptr hk.bX 0)∧ts.get 131=some (c.cb)∧ts.get 132=some (.int .i64 x.cb.length)∧ts.get 133=some (.int .i64 i)∧ts.get 175=some (.bool ((((!jk (x.cb.map (·.name)) i)||decide (x.cb[i].cl<x.base))||decide (x.base+x.bytes.length - 8<x.cb[i].cl))))) rfl ?_ ?_
     ·skip
      cases hB:((!jk (x.cb.map (·.name)) i)||decide (x.cb[i].cl<x.base)) with
      | true =>
       rw [hB] at tB;(try simp (maxSteps:=2000000) only [aE,rL,rD,rB,reduceIte,af,Chk,aC,un,t1,t3,t6,t7,t131,t132,t133,hB,tB,il,jb,cZ,aH,k0,k1,k3,ct,cF,w2,w3,r8])
       first|refine ⟨by trivial,_,rfl,?_,?_,?_,?_,?_,?_,?_,?_⟩|refine ⟨_,rfl,?_,?_,?_,?_,?_,?_,?_,?_⟩
       all_goals (try simp only [aE,rL,rD,rB,reduceIte,t1,t3,t6,t7,t131,t132,t133,hB,tB,ae])
       all_goals (first|done|rfl|trivial)
      | false =>
       rw [hB] at tB;(try simp (maxSteps:=2000000) only [aE,rL,rD,rB,reduceIte,af,Chk,aC,un,t1,t3,t6,t7,t131,t132,t133,hB,tB,il,jb,cZ,aH,k0,k1,k3,ct,cF,w2,w3,r8])
       first|refine ⟨by trivial,_,rfl,?_,?_,?_,?_,?_,?_,?_,?_⟩|refine ⟨_,rfl,?_,?_,?_,?_,?_,?_,?_,?_⟩
       all_goals (try simp only [aE,rL,rD,rB,reduceIte,t1,t3,t6,t7,t131,t132,t133,hB,tB,ae])
       all_goals (first|done|rfl|trivial)
     clear t1 t3 t6 t7 t131 t132 t133 tB
     rintro fr hM ⟨hhe,ts,rfl,t1,t3,t6,t7,t131,t132,t133,tB⟩
     subst hM;simp only [bp,bJ]
     refine ey 6 (M:=fun fr hM=>hM=h6∧∃ts,fr=⟨ts,231,[],58,none⟩∧ts.get 1=some (.ptr h.bX 0)∧ts.get 3=some (.int .i64 x.bytes.length)∧ts.get 6=some (.int .i64 i)∧ts.get 7=some (.ptr hk.bX 0)∧ts.get 131=some (c.cb)∧ts.get 132=some (.int .i64 x.cb.length)∧ts.get 133=some (.int .i64 i)∧ts.get 181=some (.bool (((((!jk (x.cb.map (·.name)) i)||decide (x.cb[i].cl<x.base))||decide (x.base+x.bytes.length - 8<x.cb[i].cl))||(x.cb[i].cl.tmod 8 != 0))))) rfl ?_ ?_
     ·skip
      cases hB:(((!jk (x.cb.map (·.name)) i)||decide (x.cb[i].cl<x.base))||decide (x.base+x.bytes.length - 8<x.cb[i].cl)) with
      | true =>
       rw [hB] at tB;(try simp (maxSteps:=2000000) only [aE,rL,rD,rB,reduceIte,af,Chk,aC,un,t1,t3,t6,t7,t131,t132,t133,hB,tB,il,jb,cZ,aH,k0,k1,k3,ct,cF,w2,w3,r8])
       first|refine ⟨by trivial,_,rfl,?_,?_,?_,?_,?_,?_,?_,?_⟩|refine ⟨_,rfl,?_,?_,?_,?_,?_,?_,?_,?_⟩
       all_goals (try simp only [aE,rL,rD,rB,reduceIte,t1,t3,t6,t7,t131,t132,t133,hB,tB,ae])
       all_goals (first|done|rfl|trivial)
      | false =>
       rw [hB] at tB;(try simp (maxSteps:=2000000) only [aE,rL,rD,rB,reduceIte,af,Chk,aC,un,t1,t3,t6,t7,t131,t132,t133,hB,tB,il,jb,cZ,aH,k0,k1,k3,ct,cF,w2,w3,r8])
       first|refine ⟨by trivial,_,rfl,?_,?_,?_,?_,?_,?_,?_,?_⟩|refine ⟨_,rfl,?_,?_,?_,?_,?_,?_,?_,?_⟩
       all_goals (try simp only [aE,rL,rD,rB,reduceIte,t1,t3,t6,t7,t131,t132,t133,hB,tB,ae])
       all_goals (first|done|rfl|trivial)
     clear t1 t3 t6 t7 t131 t132 t133 tB
     rintro fr hM ⟨hhe,ts,rfl,t1,t3,t6,t7,t131,t132,t133,tB⟩
     subst hM;simp only [bp,bJ]
     refine ey 5 (M:=fun fr hM=>hM=h6∧∃ts,fr=⟨ts,231,[],58,none⟩∧ts.get 1=some (.ptr h.bX 0)∧ts.get 3=some (.int .i64 x.bytes.length)∧ts.get 6=some (.int .i64 i)∧ts.get 7=some (.ptr hk.bX 0)∧ts.get 131=some (c.cb)∧ts.get 132=some (.int .i64 x.cb.length)∧ts.get 133=some (.int .i64 i)∧ts.get 186=some (.bool ((((((!jk (x.cb.map (·.name)) i)||decide (x.cb[i].cl<x.base))||decide (x.base+x.bytes.length - 8<x.cb[i].cl))||(x.cb[i].cl.tmod 8 != 0))||decide (x.cb[i].bound<0))))) rfl ?_ ?_
     ·skip
      cases hB:((((!jk (x.cb.map (·.name)) i)||decide (x.cb[i].cl<x.base))||decide (x.base+x.bytes.length - 8<x.cb[i].cl))||(x.cb[i].cl.tmod 8 != 0)) with
      | true =>
       rw [hB] at tB;(try simp (maxSteps:=2000000) only [aE,rL,rD,rB,reduceIte,af,Chk,aC,un,t1,t3,t6,t7,t131,t132,t133,hB,tB,il,jb,cZ,aH,k0,k1,k3,ct,cF,w2,w3,r8])
       first|refine ⟨by trivial,_,rfl,?_,?_,?_,?_,?_,?_,?_,?_⟩|refine ⟨_,rfl,?_,?_,?_,?_,?_,?_,?_,?_⟩
       all_goals (try simp only [aE,rL,rD,rB,reduceIte,t1,t3,t6,t7,t131,t132,t133,hB,tB,ae])
       all_goals (first|done|rfl|trivial)
      | false =>
       rw [hB] at tB;(try simp (maxSteps:=2000000) only [aE,rL,rD,rB,reduceIte,af,Chk,aC,un,t1,t3,t6,t7,t131,t132,t133,hB,tB,il,jb,cZ,aH,k0,k1,k3,ct,cF,w2,w3,r8])
       first|refine ⟨by trivial,_,rfl,?_,?_,?_,?_,?_,?_,?_,?_⟩|refine ⟨_,rfl,?_,?_,?_,?_,?_,?_,?_,?_⟩
       all_goals (try simp only [aE,rL,rD,rB,reduceIte,t1,t3,t6,t7,t131,t132,t133,hB,tB,ae])
       all_goals (first|done|rfl|trivial)
     clear t1 t3 t6 t7 t131 t132 t133 tB
     rintro fr hM ⟨hhe,ts,rfl,t1,t3,t6,t7,t131,t132,t133,tB⟩
     subst hM;simp only [bp,bJ]
     refine ey 4 (M:=fun fr hM=>hM=h6∧∃ts,fr=⟨ts,231,[],58,none⟩∧ts.get 1=some (.ptr h.bX 0)∧ts.get 3=some (.int .i64 x.bytes.length)∧ts.get 6=some (.int .i64 i)∧ts.get 7=some (.ptr hk.bX 0)∧ts.get 131=some (c.cb)∧ts.get 132=some (.int .i64 x.cb.length)∧ts.get 133=some (.int .i64 i)∧ts.get 190=some (.bool (((((((!jk (x.cb.map (·.name)) i)||decide (x.cb[i].cl<x.base))||decide (x.base+x.bytes.length - 8<x.cb[i].cl))||(x.cb[i].cl.tmod 8 != 0))||decide (x.cb[i].bound<0))||decide ((4294967296:Int)<x.cb[i].bound))))) rfl ?_ ?_
     ·skip
      cases hB:(((((!jk (x.cb.map (·.name)) i)||decide (x.cb[i].cl<x.base))||decide (x.base+x.bytes.length - 8<x.cb[i].cl))||(x.cb[i].cl.tmod 8 != 0))||decide (x.cb[i].bound<0)) with
      | true =>
       rw [hB] at tB;(try simp (maxSteps:=2000000) only [aE,rL,rD,rB,reduceIte,af,Chk,aC,un,t1,t3,t6,t7,t131,t132,t133,hB,tB,il,jb,cZ,aH,k0,k1,k3,ct,cF,w2,w3,r8])
       first|refine ⟨by trivial,_,rfl,?_,?_,?_,?_,?_,?_,?_,?_⟩|refine ⟨_,rfl,?_,?_,?_,?_,?_,?_,?_,?_⟩
       all_goals (try simp only [aE,rL,rD,rB,reduceIte,t1,t3,t6,t7,t131,t132,t133,hB,tB,ae])
       all_goals (first|done|rfl|trivial)
      | false =>
       rw [hB] at tB;(try simp (maxSteps:=2000000) only [aE,rL,rD,rB,reduceIte,af,Chk,aC,un,t1,t3,t6,t7,t131,t132,t133,hB,tB,il,jb,cZ,aH,k0,k1,k3,ct,cF,w2,w3,r8])
       first|refine ⟨by trivial,_,rfl,?_,?_,?_,?_,?_,?_,?_,?_⟩|refine ⟨_,rfl,?_,?_,?_,?_,?_,?_,?_,?_⟩
       all_goals (try simp only [aE,rL,rD,rB,reduceIte,t1,t3,t6,t7,t131,t132,t133,hB,tB,ae])
       all_goals (first|done|rfl|trivial)
     clear t1 t3 t6 t7 t131 t132 t133 tB
     rintro fr hM ⟨hhe,ts,rfl,t1,t3,t6,t7,t131,t132,t133,tB⟩
     subst hM;simp only [bp,bJ];refine am ?_;refine aw ?_
     cases hB:((((((!jk (x.cb.map (·.name)) i)||decide (x.cb[i].cl<x.base))||decide (x.base+x.bytes.length - 8<x.cb[i].cl))||(x.cb[i].cl.tmod 8 != 0))||decide (x.cb[i].bound<0))||decide ((4294967296:Int)<x.cb[i].bound)) with
     | true =>
      refine WC.cond (b:=true) (by (try simp only [aE,rL,rD,rB,reduceIte,tB,hB]);(try rfl)) ?_;refine au ?_;refine WC.ret ?_;refine az ?_;refine ⟨?_,K6⟩;simp only [bS,decide_eq_true_eq,bne_iff_ne,ne_eq,Bool.not_eq_true'] at hB
      have:sF x i=false:=by
       refine Bool.eq_false_iff.2 fun h'=>?_;simp only [sF,pY,hg,aU,decide_eq_true_eq,Bool.not_eq_true'] at h';obtain ⟨s0,s1,s2,s3,s4,s5,s6⟩:=h'
       rcases hB with (((((hB|hB)|hB)|hB)|hB)|hB)
       ·rw [s0] at hB;cases hB
       all_goals (first|omega|exact hB s3)
      rw [kO,hH,hX,gI hlt this,Bool.false_and,Bool.and_false,Bool.and_false]
     | false =>
     refine WC.cond (b:=false) (by (try simp only [aE,rL,rD,rB,reduceIte,tB,hB]);(try rfl)) (WC.skip ?_);refine az ?_
     clear tB
     simp only [Bool.or_eq_false_iff,decide_eq_false_iff_not,bne_eq_false_iff_eq,Bool.not_eq_false'] at hB;obtain ⟨⟨⟨⟨⟨hI,q1⟩,q2⟩,q3⟩,q4⟩,q5⟩:=hB;obtain ⟨hx,hxe⟩:∃hx,hx=h6:=⟨h6,rfl⟩;subst h6;have q3':x.cb[i].cl.tmod 8=0:=q3
     have hP:pY x i = !((x.cb.take i).map (·.cl)).contains x.cb[i].cl:=by
      simp only [pY,hg];rw [aJ (show x.base≤x.cb[i].cl by omega),aJ (show x.cb[i].cl≤x.base+x.bytes.length - 8 by omega),aJ q3',aJ (show (0:Int)≤x.cb[i].bound by omega),aJ (show x.cb[i].bound≤4294967296 by omega)];simp only [Bool.true_and]
     refine au ?_;refine ao ?_
     refine WC.while (fun m fr hj=>∃ts j,fr=⟨ts,231,[],58,none⟩∧hj=hx∧m=i - j∧j≤i∧ts.get 1=some (.ptr h.bX 0)∧ts.get 3=some (.int .i64 x.bytes.length)∧ts.get 6=some (.int .i64 i)∧ts.get 7=some (.ptr hk.bX 0)∧ts.get 8=some (.int .i64 j)∧ts.get 131=some c.cb∧ts.get 132=some (.int .i64 x.cb.length)∧ts.get 133=some (.int .i64 i)∧((x.cb.take j).map (·.cl)).contains x.cb[i].cl=false) ?_ ⟨_,0,rfl,rfl,rfl,by omega,?_,?_,?_,?_,?_,?_,?_,?_,rfl⟩
     ·rintro m fr hj ⟨ts,j,rfl,rfl,rfl,hji,t1,t3,t6,t7,t8,t131,t132,t133,hno⟩
      refine ap ?_;(try simp only [aE,rL,rD,rB,reduceIte,t6,t8]);refine aw ?_
      by_cases hjt:j<i
      ·refine aG (WC.skip ?_);refine az ?_;have hjl:j<x.cb.length:=by omega
       obtain ⟨mk,po,hmk,u1,u2⟩:=Rcs.spot im6.cb iE dp rfl kZ rfl (by decide) hjl;have u2:=u2 hj fun _ _ _ _ _=>rfl;have a0:cu (E g) 136 (mk po) 1=some (mk (po+1)):=by rcases hmk with ⟨b,hb⟩|⟨b,hb⟩<;>simp only [hb,il,fg136_1]
       have u0:cx (E g) hj 2 (mk (po+1))=some (.int .i64 x.cb[j].cl):=u2 1 (by decide) 2 _ ty2 rfl;refine ao ?_
       ((repeat refine WC.seq ?_);refine WC.draw (plans:=Eg) (by kernel_rfl) ?_;simp only [Eg,ak])
       (try simp (maxSteps:=2000000) only [aE,rL,rD,rB,reduceIte,af,Chk,t1,t7,t8,dx,il,aH,B6.at dp rfl,k1,u1,a0,u0]);refine aw ?_
       cases hb:(x.cb[j].cl==x.cb[i].cl) with
       | true =>
        refine WC.cond (b:=true) (by (try simp only [aE,rL,rD,rB,reduceIte,hb]);(try simp);(try omega)) ?_;refine au ?_;refine WC.ret ?_;refine az ?_;refine ⟨?_,K6⟩
        have hc:((x.cb.take i).map (·.cl)).contains x.cb[i].cl=true:=by
         rw [List.contains_iff_mem,bP];exact ⟨x.cb[j],List.mem_take_iff_getElem.2 ⟨j,by omega,rfl⟩,eq_of_beq hb⟩
        rw [kO,hH,hX,gI hlt (by simp only [sF,hI,hP,hc];rfl),Bool.false_and,Bool.and_false,Bool.and_false]
       | false =>
        refine WC.cond (b:=false) (by (try simp only [aE,rL,rD,rB,reduceIte,hb]);(try simp);(try omega)) (WC.skip ?_);refine ax ?_;(try simp only [aE,rL,rD,rB,reduceIte,t8,ct])
        refine ⟨_,?_,_,j+1,rfl,by trivial,rfl,by omega,?_⟩
        ·omega
        (try simp only [aE,rL,rD,rB,reduceIte,t1,t3,t6,t7,t131,t132,t133])
        refine ⟨aD,aD,aD,aD,?_,aD,aD,aD,?_⟩
        ·rw [cy (by omega) (by omega)];rfl
        ·rw [tJ (fun e:SlotD=>e.cl) hjl,List.contains_eq_any_beq,List.any_append,←List.contains_eq_any_beq,hno];have hb':(x.cb[i].cl==x.cb[j].cl)=false:=by rw [←hb];exact BEq.comm
         simp only [List.any_cons,List.any_nil,Bool.or_false,Bool.false_or,hb']
      ·refine aF (WC.exit ?_);have:j=i:=by omega
       subst this;refine az ?_;(try rw [show Nat.beq 4 4=true from rfl,cond_true]);refine ap ?_;(try simp only [aE,rL,rD,rB,reduceIte,t133,ct])
       refine ⟨_,?_,_,j+1,rfl,fk.trans (F6.sub fun x hx=>by omega),rfl,by omega,?_⟩
       ·omega
       (try simp only [aE,rL,rD,rB,reduceIte,t1,t3,t131,t132]);refine ⟨aD,aD,aD,aD,?_,jp hal (by rw [sF,hI,hP,hno];rfl)⟩;rw [cy (by omega) (by omega)];rfl
     all_goals (try simp only [aE,rL,rD,rB,reduceIte,t1,t3,t6,t7,t131,t132,t133])
     all_goals (first|trivial|rfl|simp)
    ·refine aF (WC.exit ?_);have:i=x.cb.length:=by omega
     subst this;have hS:=kJ hal;refine az ?_;have Kk:cH h hk:=Kq.trans (fk.sub fun x hx=>by omega);refine ap ?_;(try simp only [aE,rL,rD,rB,reduceIte,t1,dD,aH,Bk.at cD rfl,Sl.lenB imk.cf cD rfl]);refine ao ?_
     refine WC.while (fun m fr hn=>∃ts i,fr=⟨ts,231,[],58,none⟩∧hn=hk∧m=x.cf.length - i∧i≤x.cf.length∧ts.get 1=some (.ptr h.bX 0)∧ts.get 207=some c.cf∧ts.get 208=some (.int .i64 x.cf.length)∧ts.get 209=some (.int .i64 i)∧∀j,j<i→qz x.cf j=true) ?_ ⟨_,0,rfl,rfl,rfl,by omega,?_,?_,?_,?_,fun j hj=>absurd hj (Nat.not_lt_zero _)⟩
     ·rintro m fr hn ⟨ts,i,rfl,rfl,rfl,hi,t1,t207,t208,t209,hal⟩
      refine ap ?_;(try simp only [aE,rL,rD,rB,reduceIte,t208,t209]);refine aw ?_
      by_cases hlt:i<x.cf.length
      ·refine aG (WC.skip ?_);refine az ?_;obtain ⟨p,p1,p2⟩:=imk.cf.at cD rfl ty9 rfl rfl hlt;have p2:=p2 hn fun _ _ _ _ _=>rfl;have hg:x.cf[i]?=some x.cf[i]:=List.getElem?_eq_getElem hlt;refine ao ?_;refine ap ?_;(try simp only [aE,rL,rD,rB,reduceIte,t207,t209,p1,p2]);refine au ?_;refine js.mono fun v h2 ⟨e2,e2'⟩=>?_;subst e2 e2';refine az ?_;refine aw ?_
       rcases bg (eR x.cf[i] != 0) with q1|q1
       ·refine WC.cond (b:=true) (by (try simp only [aE,rL,rD,rB,reduceIte,q1]);(try simp);(try omega)) ?_;refine au ?_;refine WC.ret ?_;refine az ?_;refine ⟨?_,Kk⟩;have q1e:¬eR x.cf[i]=0:=by simpa using q1
        rw [kO,hH,hX,hS,gI hlt (by simp only [qz,hg];rw [aK q1e];rfl)];rfl
       refine WC.cond (b:=false) (by (try simp only [aE,rL,rD,rB,reduceIte,q1]);(try simp);(try omega)) (WC.skip ?_);refine az ?_;have q1e:eR x.cf[i]=0:=by simpa using q1
       obtain ⟨s',hs1,hs2,_⟩:=Sl.sub imk.cf cD rfl (cL ty9) (lo:=none) (hi:=some i) (l:=0) (r:=i) rfl rfl (Nat.zero_le _) (by omega);have hll:(x.cf.take i).length=i:=by simp;omega
       have hs2:Ss g h2 s' (x.cf.take i):=by
        unfold Ss Vs;rw [hll,List.map_take];simpa using hs2
       have hs1:eL (E g) 30 c.cf none (some (.int .i64 i)) none=some s':=hs1;refine ap ?_;(try simp only [aE,rL,rD,rB,reduceIte,t1,dD,aH,Bk.at cD rfl,hs1,Sl.lenB hs2 cD rfl,hll]);refine ao ?_
       refine WC.while (fun m fr hj=>∃ts j,fr=⟨ts,231,[],58,none⟩∧hj=h2∧m=i - j∧j≤i∧ts.get 1=some (.ptr h.bX 0)∧ts.get 10=some (.str x.cf[i])∧ts.get 207=some c.cf∧ts.get 208=some (.int .i64 x.cf.length)∧ts.get 209=some (.int .i64 i)∧ts.get 220=some s'∧ts.get 221=some (.int .i64 i)∧ts.get 222=some (.int .i64 j)∧((x.cf.take i).take j).contains x.cf[i]=false) ?_ ⟨_,0,rfl,rfl,rfl,by omega,?_,?_,?_,?_,?_,?_,?_,?_,rfl⟩
       ·rintro m fr hj ⟨ts,j,rfl,rfl,rfl,hji,t1,t10,t207,t208,t209,t220,t221,t222,hno⟩
        refine ap ?_;(try simp only [aE,rL,rD,rB,reduceIte,t221,t222]);refine aw ?_
        by_cases hjt:j<i
        ·refine aG (WC.skip ?_);refine az ?_;have hjl:j<(x.cf.take i).length:=by omega
         obtain ⟨p,p1,p2⟩:=hs2.at cD rfl ty9 rfl rfl hjl;have p2:=p2 hj fun _ _ _ _ _=>rfl;generalize hy:(x.cf.take i)[j]=y at *;refine ao ?_;refine ap ?_;(try simp only [aE,rL,rD,rB,reduceIte,t220,t222,p1,p2]);refine ap ?_;(try simp only [aE,rL,rD,rB,reduceIte,t10,gH]);refine aw ?_
         cases hb:(y==x.cf[i]) with
         | true =>
          refine WC.cond (b:=true) (by (try simp only [aE,rL,rD,rB,reduceIte,hb]);(try simp);(try omega)) ?_;refine au ?_;refine WC.ret ?_;refine az ?_;refine ⟨?_,Kk⟩
          have ht:(x.cf.take i).contains x.cf[i]=true:=by
           rw [List.contains_iff_mem,←eq_of_beq hb,←hy];exact aP hjl
          rw [kO,hH,hX,hS,gI hlt (by simp only [qz,hg,ht];simp)];rfl
         | false =>
          refine WC.cond (b:=false) (by (try simp only [aE,rL,rD,rB,reduceIte,hb]);(try simp);(try omega)) (WC.skip ?_);refine ax ?_;(try simp only [aE,rL,rD,rB,reduceIte,t222,ct])
          refine ⟨_,?_,_,j+1,rfl,by trivial,rfl,by omega,?_⟩
          ·omega
          (try simp only [aE,rL,rD,rB,reduceIte,t1,t10,t207,t208,t209,t220,t221])
          refine ⟨aD,aD,aD,aD,aD,aD,aD,?_,?_⟩
          ·rw [cy (by omega) (by omega)];rfl
          ·rw [bW hjl,List.contains_eq_any_beq,List.any_append,←List.contains_eq_any_beq,hno,hy];have hb':(x.cf[i]==y)=false:=by rw [←hb];exact BEq.comm
           simp only [List.any_cons,List.any_nil,Bool.or_false,Bool.false_or,hb']
        ·refine aF (WC.exit ?_);have:j=i:=by omega
         subst this;have hno:(x.cf.take j).contains x.cf[j]=false:=by rwa [bT (by omega)] at hno
         refine az ?_;(try rw [show Nat.beq 8 8=true from rfl,cond_true]);refine ap ?_;(try simp only [aE,rL,rD,rB,reduceIte,t209,ct])
         refine ⟨_,?_,_,j+1,rfl,by trivial,rfl,by omega,?_⟩
         ·omega
         (try simp only [aE,rL,rD,rB,reduceIte,t1,t207,t208]);refine ⟨aD,aD,aD,?_,jp hal (by simp only [qz,hg,hno];rw [aJ q1e];rfl)⟩;rw [cy (by omega) (by omega)];rfl
       all_goals (try simp only [aE,rL,rD,rB,reduceIte,t1,t207,t208,t209])
       all_goals (first|trivial|rfl|simp)
      ·refine aF (WC.exit ?_);have:i=x.cf.length:=by omega
       subst this;have hN:=kJ hal;refine ay ?_;refine WC.ret ?_;refine az ?_;exact ⟨by rw [kO,hH,hX,hS,hN];rfl,Kk⟩
     all_goals (try simp only [aE,rL,rD,rB,reduceIte,t1])
     all_goals (first|trivial|rfl|simp)
   all_goals (try simp only [aE,rL,rD,rB,reduceIte,t1,t3])
   all_goals (first|trivial|rfl|simp)
 all_goals (try simp only [aE,rL,rD,rB,reduceIte,t1,t3])
 all_goals (first|trivial|rfl|simp)
end Go.Proofs.OP
