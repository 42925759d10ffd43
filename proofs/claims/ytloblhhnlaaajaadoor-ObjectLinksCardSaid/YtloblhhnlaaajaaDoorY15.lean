/- Walks: sums, numbers as bytes, names. -/
import Derived.Test.YtloblhhnlaaajaaDoorY13
import Derived.Test.YtloblhhnlaaajaaDoorY14
set_option linter.unusedVariables false
set_option linter.unusedSimpArgs false
set_option linter.defProp false
namespace Go.Proofs.OP
open Go Go.Ev
open Go.Proofs
open Nat renaming reduceLT → rL, reduceEqDiff → rD, reduceBEq → rB
variable {g : T (List V)}
def u8 (c:UInt8):V:=.int .u8 c.toNat
abbrev Bs (g:T (List V)) (h:H) (s:V) (xs:List UInt8):Prop:=Sl (E g) h 1 s xs.length (xs.map u8)
theorem Bs.at {h:H} {s:V} {xs:List UInt8} (a:Bs g h s xs) {k:Nat} (hk:k<xs.length) :
  ∃p,cK (E g) 27 s (.int .i64 k)=some p∧cx (E g) h 5 p=some (u8 xs[k]):=by
 obtain ⟨p,h1,h2⟩:=Sl.place a cM rfl ty5 rfl (by decide) hk;refine ⟨p,h1,?_⟩;rw [h2 h fun _ _ _ _ _=>rfl];show (xs.map u8)[k * 1]?=_;rw [bL,List.getElem?_map,List.getElem?_eq_getElem hk];rfl
theorem Bs.len {h h':H} {s:V} {xs:List UInt8} (a:Bs g h s xs):lenB (E g) h' 27 s=some (.int .i64 xs.length):=Sl.lenB a cM rfl h'
def rK (xs:List UInt8):Nat:=(xs.map (·.toNat)).sum
theorem yK {xs:List UInt8} {i:Nat} (hi:i<xs.length):rK (xs.take (i+1))=rK (xs.take i)+xs[i].toNat:=by
 unfold rK;rw [bW hi,List.map_append,List.sum_append];simp only [bI,List.map_nil,List.sum_cons,List.sum_nil,Nat.add_zero]
theorem sumN_le (xs:List UInt8):rK xs≤255 * xs.length:=by
 induction xs with
 | nil=>simp [rK]
 | cons x r ih =>
  have:x.toNat<256:=x.toNat_lt;simp only [rK,bI,List.sum_cons,aO] at *;omega
theorem uM (n:Nat):IntKind.u32.wrap (n:Int)=((n % 4294967296:Nat):Int):=by
 unfold IntKind.wrap;simp only [IntKind.bits,IntKind.signed,Bool.false_and,Bool.false_eq_true,if_false];omega
theorem sum_ok {h:H} {s:V} {xs:List UInt8} (hb:Bs g h s xs) (hlen:xs.length<2^62):WF (E g) 98 [s] h fun v h'=>v=.int .u32 ((rK xs % 4294967296:Nat):Int)∧h'=h:=by
 refine WF.enter fn98 rfl ?_;refine WC.seq (WC.run ?_);refine az ?_;refine WC.seq (WC.run ?_);refine az ?_;refine WC.seq (WC.seq (WC.run ?_));(try simp only [aE,rL,rD,rB,reduceIte,hb.len]);refine WC.block ?_
 refine WC.while (fun m fr hh=>∃ts i,fr=⟨ts,18,[],98,none⟩∧hh=h∧m=xs.length - i∧i≤xs.length∧ts.get 6=some s∧ts.get 7=some (.int .i64 xs.length)∧ts.get 8=some (.int .i64 i)∧ts.get 3=some (.int .u32 ((rK (xs.take i) % 4294967296:Nat):Int))) ?_ ⟨_,0,rfl,rfl,rfl,by omega,?_,?_,?_,?_⟩
 ·rintro m fr hh ⟨ts,i,rfl,rfl,rfl,hi,h6,h7,h8,h3⟩
  refine WC.seq (WC.run ?_);(try simp only [aE,rL,rD,rB,reduceIte,h7,h8]);refine WC.seq ?_
  by_cases hlt:i<xs.length
  ·refine WC.cond (b:=true) (by (try simp only [aE,rL,rD,rB,reduceIte]);simp;omega) (WC.skip ?_);refine az ?_;obtain ⟨p,p1,p2⟩:=hb.at hlt;refine WC.seq (WC.block (WC.seq (WC.run ?_)));(try simp only [aE,rL,rD,rB,reduceIte,h6,h8,p1,p2]);refine WC.run ?_;(try simp only [aE,rL,rD,rB,reduceIte,h3,ft ty5 tp rfl,u8,ct]);refine WC.run ?_;(try simp only [aE,rL,rD,rB,reduceIte,h8,ct])
   refine ⟨_,?_,_,i+1,rfl,aD,rfl,by omega,?_⟩
   ·omega
   (try simp only [aE,rL,rD,rB,reduceIte,h6,h7])
   refine ⟨aD,aD,?_,?_⟩
   ·rw [cy (by omega) (by omega)];rfl
   ·have e:IntKind.u32.wrap (((rK (xs.take i) % 4294967296:Nat):Int)+IntKind.u32.wrap (xs[i].toNat:Int))=((rK (xs.take (i+1)) % 4294967296:Nat):Int):=by
     rw [yK hlt,uM,←Int.natCast_add,uM];exact congrArg Nat.cast (by omega)
    rw [e]
  ·refine WC.cond (b:=false) (by (try simp only [aE,rL,rD,rB,reduceIte]);simp;omega) (WC.exit ?_);have:i=xs.length:=by omega
   subst this;refine az ?_;refine WC.seq (WC.run ?_);(try simp only [aE,rL,rD,rB,reduceIte,h3]);refine WC.ret ?_;refine az ?_;exact ⟨by rw [bv],aD⟩
 all_goals (try simp only [aE,rL,rD,rB,reduceIte])
 all_goals simp [rK]
theorem HT (a b:Nat):Int.tdiv (a:Int) (b:Int)=((a / b:Nat):Int):=rfl
theorem Cg (a b:Nat):Int.fdiv (a:Int) (b:Int)=((a / b:Nat):Int):=by
 rw [Int.fdiv_eq_ediv_of_nonneg _ (by omega)];exact (Int.natCast_ediv a b).symm
theorem uL (n:Nat):IntKind.u64.wrap (n:Int)=((n % 18446744073709551616:Nat):Int):=by
 unfold IntKind.wrap;simp only [IntKind.bits,IntKind.signed,Bool.false_and,Bool.false_eq_true,if_false];omega
theorem sg (n:Nat):IntKind.u8.wrap (n:Int)=((n % 256:Nat):Int):=by
 unfold IntKind.wrap;simp only [IntKind.bits,IntKind.signed,Bool.false_and,Bool.false_eq_true,if_false];omega
theorem vR (n:Nat):V.int .u8 ((n % 256:Nat):Int)=u8 (UInt8.ofNat n):=by
 unfold u8;rw [UInt8.toNat_ofNat']
theorem rsum_ok {h:H} {s:V} {xs:List UInt8} (hb:Bs g h s xs) (hlen:xs.length<2^40):WF (E g) 61 [s] h fun v h'=>v=.int .i64 ((rK xs % 4294967296:Nat):Int)∧h'=h:=by
 refine WF.enter fn61 rfl ?_;refine WC.seq (WC.run ?_);refine az ?_;refine WC.seq (WC.run ?_);refine az ?_;refine WC.seq (WC.seq (WC.run ?_));(try simp only [aE,rL,rD,rB,reduceIte,hb.len]);refine WC.block ?_
 refine WC.while (fun m fr hh=>∃ts i,fr=⟨ts,19,[],61,none⟩∧hh=h∧m=xs.length - i∧i≤xs.length∧ts.get 6=some s∧ts.get 7=some (.int .i64 xs.length)∧ts.get 8=some (.int .i64 i)∧ts.get 3=some (.int .i64 (rK (xs.take i):Nat))) ?_ ⟨_,0,rfl,rfl,rfl,by omega,?_,?_,?_,?_⟩
 ·rintro m fr hh ⟨ts,i,rfl,rfl,rfl,hi,h6,h7,h8,h3⟩
  refine WC.seq (WC.run ?_);(try simp only [aE,rL,rD,rB,reduceIte,h7,h8]);refine WC.seq ?_
  by_cases hlt:i<xs.length
  ·refine WC.cond (b:=true) (by (try simp only [aE,rL,rD,rB,reduceIte]);simp;omega) (WC.skip ?_);refine az ?_;obtain ⟨p,p1,p2⟩:=hb.at hlt;refine WC.seq (WC.block (WC.seq (WC.run ?_)));(try simp only [aE,rL,rD,rB,reduceIte,h6,h8,p1,p2]);refine WC.run ?_;(try simp only [aE,rL,rD,rB,reduceIte,h3,ft ty5 ty2 rfl,u8,ct]);refine WC.run ?_;(try simp only [aE,rL,rD,rB,reduceIte,h8,ct])
   refine ⟨_,?_,_,i+1,rfl,aD,rfl,by omega,?_⟩
   ·omega
   (try simp only [aE,rL,rD,rB,reduceIte,h6,h7]);have hx:xs[i].toNat<256:=xs[i].toNat_lt;have hs:=sumN_le (xs.take i);have hl:(xs.take i).length≤xs.length:=by simp;omega
   refine ⟨aD,aD,?_,?_⟩
   ·rw [cy (by omega) (by omega)];rfl
   ·rw [yK hlt,cy (n:=(xs[i].toNat:Int)) (by omega) (by omega),cy (by omega) (by omega)];rfl
  ·refine WC.cond (b:=false) (by (try simp only [aE,rL,rD,rB,reduceIte]);simp;omega) (WC.exit ?_);have:i=xs.length:=by omega
   subst this;refine az ?_;refine WC.seq (WC.run ?_);(try simp only [aE,rL,rD,rB,reduceIte,h3,pV (show (4294967296:Int)≠0 by decide)]);refine WC.ret ?_;refine az ?_;exact ⟨by rw [bv];rfl,aD⟩
 all_goals (try simp only [aE,rL,rD,rB,reduceIte])
 all_goals simp [rK]
def leB:Nat→Nat→List UInt8
 | _,0=>[]
 | n,k+1=>UInt8.ofNat n::leB (n / 256) k
theorem dw:∀(k n:Nat),(leB n k).length=k
 | 0,_=>rfl
 | k+1,n=>by simp [leB,dw k]
theorem tL:∀(k n:Nat),leB n (k+1)=leB n k++[UInt8.ofNat (n / 256^k)]
 | 0,n=>by simp [leB]
 | k+1,n=>by
  rw [leB,tL k (n / 256)];simp only [leB,List.cons_append,Nat.div_div_eq_div_mul];rw [Nat.pow_succ,Nat.mul_comm]
abbrev lq (g:T (List V)) (h:H) (s:V) (h':H) (s':V) (xs:List UInt8):Prop:=Grew (E g) 5 1 h s h' s' xs.length (xs.map u8)
abbrev nM (g:T (List V)) (h:H) (s:V) (xs:List UInt8):Prop:=Buf (E g) h 5 1 s xs.length (xs.map u8)
theorem u8_one (xs:List UInt8):(xs.map u8).all V.one=true:=by
 rw [bH];intro x hx;obtain ⟨c,_,rfl⟩:=bP.1 hx;rfl
theorem ye {h0 h:H} {s0 s x:V} {xs ys:List UInt8} {t2:Nat} {j:TI} {Q:V→H→Prop} (gr:lq g h0 s0 h s xs) (hj:(E g).tys.get t2=some j) (hjd:(∃e',j.desc=.slice e')∨j.desc=.string)
  (hl:iu x=some ys.length) (hc:cX (E g) h 1 ys.length x=some (ys.map u8)) (hsize:xs.length+ys.length≤2^40)
  (k:∀s' h',lq g h0 s0 h' s' (xs++ys)→Fix (fun c=>c<h.bX∧∀o m cc,s≠.slice c o m cc) h h'→Q s' h'):ej (r1 (kv (E g) h 27 t2 s x)) Q :=
 ql gr.buf gr.low cM rfl hj hjd ty5 rfl (by decide) (by decide) hl hc (by simp) (u8_one ys) (by simp only [bL];omega) fun s' h' a =>
  k s' h' ((gr.trans a).len (by rw [aQ]) (by rw [List.map_append])) a.fix
theorem vn {h:H} {s:V} {xs:List UInt8} {n k:Nat} (hb:nM g h s xs) (hlow:In (·<h.bX) s) (hn:n<2^64) (hk:k≤8) (hlen:xs.length≤2^39) :
  WF (E g) 118 [s,.int .u64 n,.int .i64 k] h fun v h'=>lq g h s h' v (xs++leB n k):=by
 refine WF.enter fn118 rfl ?_;refine WC.seq (WC.run ?_);refine az ?_;refine WC.seq (WC.seq (WC.run ?_));refine az ?_;refine WC.block ?_
 refine WC.while (fun m fr hh=>∃ts i v,fr=⟨ts,19,[],118,none⟩∧lq g h s hh v (xs++leB n i)∧m=k - i∧i≤k∧ts.get 0=some v∧ts.get 1=some (.int .u64 (n / 256^i:Nat))∧ts.get 7=some (.int .i64 k)∧ts.get 8=some (.int .i64 i)) ?_ ⟨_,0,s,rfl,?_,rfl,by omega,?_,?_,?_,?_⟩
 ·rintro m fr hh ⟨ts,i,v,rfl,gr,rfl,hi,h0,h1,h7,h8⟩
  refine WC.seq (WC.run ?_);(try simp only [aE,rL,rD,rB,reduceIte,h7,h8]);refine WC.seq ?_
  by_cases hlt:i<k
  ·refine WC.cond (b:=true) (by (try simp only [aE,rL,rD,rB,reduceIte]);simp;omega) (WC.skip ?_);refine az ?_;refine WC.seq (WC.block (WC.seq (WC.run ?_)));(try simp only [aE,rL,rD,rB,reduceIte,h0,h1,ft rP ty5 rfl,sg,vR]);refine dU cM rfl ty5 rfl rfl rfl ?_;intro h2 b2 n2 f2;refine az ?_;refine ye (ys:=[UInt8.ofNat (n / 256^i)]) (gr.keep f2) cM (.inl ⟨_,rfl⟩) b2.sl.len b2.sl.cells (by simp [dw];omega) ?_
   intro s' h3 gr3 _;rw [bV,←tL] at gr3;refine az ?_;refine WC.run ?_;(try simp only [aE,rL,rD,rB,reduceIte,h1,Fu (show (0:Int)≤8 by decide)]);refine WC.run ?_;(try simp only [aE,rL,rD,rB,reduceIte,h8,ct])
   refine ⟨_,?_,_,i+1,s',rfl,gr3,rfl,by omega,?_⟩
   ·omega
   (try simp only [aE,rL,rD,rB,reduceIte,h7])
   refine ⟨aD,?_,aD,?_⟩
   ·have e:(((n / 256^i:Nat):Int).fdiv (2^(min (8:Int).toNat IntKind.u64.bits)))=((n / 256^(i+1):Nat):Int):=by
     have:((2:Int)^(min (8:Int).toNat IntKind.u64.bits))=((256:Nat):Int):=by decide
     rw [this,Cg,Nat.pow_succ,Nat.div_div_eq_div_mul]
    rw [e]
   ·rw [cy (by omega) (by omega)];rfl
  ·refine WC.cond (b:=false) (by (try simp only [aE,rL,rD,rB,reduceIte]);simp;omega) (WC.exit ?_);have:i=k:=by omega
   subst this;refine az ?_;refine WC.seq (WC.run ?_);(try simp only [aE,rL,rD,rB,reduceIte,h0]);refine WC.ret ?_;refine az ?_;exact gr
 ·simpa [leB] using Grew.refl hb hlow
 all_goals (try simp only [aE,rL,rD,rB,reduceIte])
 all_goals simp
abbrev cH (h h':H):Prop:=Fix (·<h.bX) h h'
theorem zg {h:H}:WF (E g) 90 [] h fun v h'=>v=.agg []∧cH h h':=by
 refine WF.enter fn90 rfl ?_;refine au ?_;refine cz AP ?_;intro h1 a1 n1 f1;refine ay ?_;refine cz AP ?_;intro h2 a2 n2 f2;refine ax ?_;(try simp only [aE,rL,rD,rB,reduceIte,a2.agg AP rfl (o:=0) (aI 0)]);refine cq (a1.fix f2) AP rfl (by decide) rfl ?_;intro h3 a3 n3 f3;refine az ?_;refine WC.ret ?_;(try simp only [aE,rL,rD,rB,reduceIte,a3.agg AP rfl (o:=0) (aI 0)]);exact ⟨by trivial,by omega,fun c hc=>by rw [f3.ca c (by omega),f2.ca c (by omega),f1.ca c hc]⟩
theorem nM.kept {h h':H} {s:V} {xs:List UInt8} (b:nM g h s xs) (l:In (·<h.bX) s) (f:cH h h'):lq g h s h' s xs:=(Grew.refl b l).keep f
theorem JI {h:H} {s:V} {xs:List UInt8} {n:Nat} (hb:nM g h s xs) (hlow:In (·<h.bX) s) (hn:n<4294967296) (hlen:xs.length≤2^39) :
  WF (E g) 97 [.agg [],s,.int .u32 n] h fun v h'=>lq g h s h' v (xs++leB n 4):=by
 refine WF.enter fn97 rfl ?_;refine au ?_;refine eI (v:=.agg []) (by (try simp only [aE,rL,rD,rB,reduceIte])) ?_;intro h1 a1 n1 f1;refine ax ?_;(try simp only [aE,rL,rD,rB,reduceIte,ft tp rP rfl]);have gr:=nM.kept hb hlow f1;rw [uL,Nat.mod_eq_of_lt (by omega)];refine (vn (n:=n) (k:=4) gr.buf gr.low (by omega) (by omega) hlen).mono fun v h2 g2=>?_;refine az ?_;refine WC.ret ?_;refine az ?_;exact gr.trans g2
theorem JH {h:H} {s:V} {xs:List UInt8} {n:Nat} (hb:nM g h s xs) (hlow:In (·<h.bX) s) (hn:n<2^64) (hlen:xs.length≤2^39) :
  WF (E g) 96 [.agg [],s,.int .u64 n] h fun v h'=>lq g h s h' v (xs++leB n 8):=by
 refine WF.enter fn96 rfl ?_;refine au ?_;refine eI (v:=.agg []) (by (try simp only [aE,rL,rD,rB,reduceIte])) ?_;intro h1 a1 n1 f1;refine ay ?_;have gr:=nM.kept hb hlow f1;refine (vn (n:=n) (k:=8) gr.buf gr.low hn (by omega) hlen).mono fun v h2 g2=>?_;refine az ?_;refine WC.ret ?_;refine az ?_;exact gr.trans g2
end Go.Proofs.OP
namespace Go.Proofs.OP
open Go Go.Ev
def jI:List (List Stp):=[[⟨0,false,false,[]⟩,⟨1,false,true,[]⟩,⟨2,false,true,[]⟩,⟨3,false,false,[]⟩,⟨4,false,false,[]⟩,⟨5,false,true,[]⟩,⟨6,false,true,[]⟩,⟨7,false,false,[]⟩,⟨8,false,false,[]⟩,⟨9,false,false,[]⟩,⟨10,false,true,[]⟩,⟨11,false,true,[]⟩,⟨12,false,false,[]⟩,⟨13,false,false,[]⟩,⟨14,false,false,[]⟩,⟨15,false,true,[]⟩,⟨16,false,true,[]⟩,⟨17,false,false,[]⟩,⟨18,false,false,[]⟩,⟨19,false,true,[]⟩,⟨20,false,true,[]⟩,⟨21,false,false,[]⟩,⟨22,false,false,[]⟩,⟨23,false,false,[]⟩,⟨24,false,false,[]⟩,⟨25,false,true,[]⟩,⟨26,false,true,[]⟩,⟨27,false,false,[]⟩,⟨28,false,false,[]⟩,⟨29,false,true,[]⟩,⟨30,false,true,[]⟩,⟨31,false,false,[]⟩,⟨32,false,true,[]⟩,⟨33,true,false,[29]⟩,⟨34,false,true,[]⟩,⟨35,false,true,[]⟩,⟨36,false,false,[]⟩,⟨37,false,false,[]⟩]]
def kR:List (List Stp):=[[⟨0,false,false,[]⟩,⟨1,false,true,[]⟩,⟨2,false,true,[]⟩,⟨3,false,false,[]⟩,⟨4,false,false,[]⟩,⟨5,false,true,[]⟩,⟨6,false,true,[]⟩,⟨7,false,false,[]⟩,⟨8,false,false,[]⟩,⟨9,false,false,[]⟩,⟨10,false,true,[]⟩,⟨11,false,true,[]⟩,⟨12,false,false,[]⟩,⟨13,false,false,[]⟩,⟨14,false,false,[]⟩,⟨15,false,true,[]⟩,⟨16,false,true,[]⟩,⟨17,false,false,[]⟩,⟨18,false,false,[]⟩,⟨19,false,false,[]⟩,⟨20,false,true,[]⟩,⟨21,false,true,[]⟩,⟨22,false,true,[]⟩,⟨23,false,false,[]⟩,⟨24,false,true,[]⟩,⟨25,true,false,[21,20]⟩,⟨26,false,true,[]⟩,⟨27,false,true,[]⟩,⟨28,false,false,[]⟩,⟨29,false,false,[]⟩,⟨30,false,false,[]⟩,⟨31,false,true,[]⟩,⟨32,false,true,[]⟩,⟨33,false,false,[]⟩,⟨34,false,false,[]⟩,⟨35,false,false,[]⟩,⟨36,false,true,[]⟩,⟨37,false,true,[]⟩,⟨38,false,false,[]⟩]]
def Iy:List (List Stp):=[[⟨0,false,false,[]⟩,⟨1,false,false,[]⟩,⟨2,false,false,[]⟩,⟨3,false,true,[]⟩,⟨4,false,false,[]⟩,⟨5,false,false,[]⟩,⟨6,false,false,[]⟩,⟨7,false,true,[]⟩,⟨8,false,true,[]⟩]]
def Iw:List (List Stp):=[[⟨0,false,false,[]⟩,⟨2,false,false,[]⟩,⟨3,false,false,[]⟩,⟨4,false,false,[]⟩,⟨5,false,true,[]⟩,⟨6,false,false,[]⟩,⟨7,false,true,[]⟩,⟨1,true,false,[7,5]⟩,⟨8,true,false,[]⟩,⟨9,false,false,[]⟩,⟨10,false,false,[]⟩,⟨11,true,false,[]⟩]]
def Iv:List (List Stp):=[[⟨1,false,false,[]⟩,⟨2,false,false,[]⟩,⟨3,false,false,[]⟩,⟨4,false,true,[]⟩,⟨5,false,false,[]⟩,⟨6,false,false,[]⟩,⟨7,false,false,[]⟩,⟨8,false,true,[]⟩,⟨0,true,false,[8,4]⟩,⟨9,true,false,[4]⟩,⟨10,true,false,[]⟩,⟨11,true,false,[]⟩]]
def It:List (List Stp):=[[⟨0,false,false,[]⟩,⟨1,false,false,[]⟩,⟨2,false,false,[]⟩,⟨3,false,true,[]⟩,⟨4,false,true,[]⟩,⟨5,false,false,[]⟩,⟨6,false,false,[]⟩,⟨7,false,false,[]⟩,⟨8,false,false,[]⟩,⟨9,false,true,[]⟩,⟨10,false,true,[]⟩,⟨11,false,false,[]⟩,⟨12,false,false,[]⟩,⟨13,false,false,[]⟩,⟨14,false,false,[]⟩,⟨15,false,true,[]⟩,⟨16,false,true,[]⟩,⟨17,false,false,[]⟩,⟨18,false,false,[]⟩,⟨19,false,false,[]⟩,⟨20,false,false,[]⟩,⟨21,false,true,[]⟩,⟨22,false,true,[]⟩,⟨23,false,false,[]⟩,⟨24,false,false,[]⟩,⟨25,false,false,[]⟩,⟨26,false,false,[]⟩,⟨27,false,true,[]⟩,⟨28,false,true,[]⟩,⟨29,false,false,[]⟩,⟨32,false,false,[]⟩,⟨30,true,false,[]⟩,⟨31,false,true,[]⟩]]
def oG:List (List Stp):=[[⟨0,false,false,[]⟩,⟨1,false,true,[]⟩,⟨2,false,true,[]⟩,⟨3,false,false,[]⟩,⟨4,false,false,[]⟩,⟨5,false,true,[]⟩,⟨6,false,true,[]⟩,⟨7,false,false,[]⟩,⟨8,false,false,[]⟩,⟨9,false,false,[]⟩,⟨10,false,true,[]⟩,⟨11,false,true,[]⟩,⟨12,false,false,[]⟩,⟨13,false,false,[]⟩,⟨14,false,false,[]⟩,⟨15,false,true,[]⟩,⟨16,false,false,[]⟩,⟨17,false,false,[]⟩,⟨18,false,true,[]⟩,⟨19,true,false,[15]⟩,⟨20,false,true,[]⟩,⟨21,false,false,[]⟩,⟨22,true,false,[]⟩]]
def ka:List (List Stp):=[[⟨0,false,false,[]⟩,⟨1,false,true,[]⟩,⟨2,false,true,[]⟩,⟨3,false,false,[]⟩,⟨4,false,false,[]⟩,⟨5,false,true,[]⟩,⟨6,false,true,[]⟩,⟨7,false,false,[]⟩,⟨8,false,false,[]⟩,⟨9,false,false,[]⟩,⟨10,false,true,[]⟩,⟨11,false,true,[]⟩,⟨12,false,false,[]⟩,⟨13,false,false,[]⟩,⟨14,false,false,[]⟩,⟨15,false,true,[]⟩,⟨16,false,false,[]⟩,⟨17,false,false,[]⟩,⟨18,false,true,[]⟩,⟨19,true,false,[15]⟩,⟨20,false,true,[]⟩,⟨21,false,true,[]⟩,⟨22,false,false,[]⟩,⟨23,false,false,[]⟩,⟨24,false,false,[]⟩,⟨25,false,true,[]⟩,⟨26,false,true,[]⟩,⟨27,false,false,[]⟩,⟨28,false,false,[]⟩,⟨29,false,false,[]⟩,⟨30,false,true,[]⟩,⟨31,false,true,[]⟩,⟨32,false,false,[]⟩,⟨33,true,false,[]⟩]]
end Go.Proofs.OP
namespace Go.Proofs.OP
open Go Go.Ev
open Go.Proofs
open Nat renaming reduceLT → rL, reduceEqDiff → rD, reduceBEq → rB
variable {g : T (List V)}
def sU:V→Bool
 | .nils=>true
 | _=>false
theorem eq_nils {E:Env} {h h':H} {c:Bool} {t e sz n:Nat} {s:V} {vs:List V} {i:TI} (a:Sl E h' sz s n vs) (ht:E.tys.get t=some i) (hd:i.desc=.slice e):fJ E h c .eql t s .nils=some (.bool (sU s)):=by
 have hl:=a.len;unfold iu at hl
 split at hl
 ·simp [fJ,eqV,ht,hd,sU]
 ·simp [fJ,eqV,ht,hd,sU]
 ·simp [fJ,eqV,ht,hd,sU]
 ·exact absurd rfl (a.slice _)
 ·cases hl
theorem Ah {E:Env} {h:H} {sz n:Nat} {s:V} {vs:List V} (a:Sl E h sz s n vs) (hn:sU s=true):s=.nils∧n=0∧vs=[]:=by
 unfold sU at hn
 split at hn
 ·have hl:=a.len;simp only [iu] at hl;injection hl with hl;subst hl;have:=a.size;exact ⟨rfl,rfl,by simpa using this⟩
 ·cases hn
abbrev OwnB (g:T (List V)) (h h':H) (v:V) (xs:List UInt8):Prop:=nM g h' v xs∧In (·<h'.bX) v∧cH h h'∧In (fun b=>h.bX≤b) v
theorem Jp {h:H} {s:V} {xs:List UInt8} (hb:Bs g h s xs) (hs:In (·<h.bX) s) (hlen:xs.length≤2^39):WF (E g) 44 [s] h fun v h'=>OwnB g h h' v xs:=by
 refine WF.enter fn44 rfl ?_;refine au ?_;refine ap ?_;(try simp only [aE,rL,rD,rB,reduceIte,eq_nils hb cM rfl])
 cases hn:sU s with
 | true =>
  obtain ⟨rfl,_,h3⟩:=Ah hb hn;have hx:xs=[]:=by simpa using h3
  subst hx;refine aw ?_;refine aG ?_;refine ay ?_;refine WC.ret ?_;refine az ?_;exact ⟨.nil,In.nils,Fix.refl _ _,In.nils⟩
 | false =>
  refine aw ?_;refine aF (WC.skip ?_);refine ay ?_;refine jN cM rfl ty5 rfl (by decide) ?_;intro h1 b1 n1 f1;refine az ?_;refine ye (h0:=h1) (xs:=[]) (ys:=xs) (Grew.refl b1 (fun b o n c e=>by injection e with e;omega)) cM (.inl ⟨_,rfl⟩) (hb.fix hs f1).len (hb.fix hs f1).cells (by simp;omega) ?_;intro s' h2 g2 f2;refine az ?_;refine WC.ret ?_;refine az ?_
  refine ⟨g2.buf,g2.low,⟨by have:=g2.fix.bX;omega,fun c hc=>?_⟩,fun b o n c e=>?_⟩
  ·rw [g2.fix.ca c ⟨by omega,fun o m cc e=>by injection e with e;omega⟩,f1.ca c hc]
  ·rcases g2.own _ _ _ _ e with q|⟨o,k,c,q⟩
   ·omega
   ·injection q with q;omega
def U (n:Int):Nat:=(n % 18446744073709551616).toNat
theorem U_lt (n:Int):U n<2^64:=by unfold U;omega
theorem mg (n:Int):IntKind.u64.wrap n=(U n:Int):=by
 unfold IntKind.wrap U;simp only [IntKind.bits,IntKind.signed,Bool.false_and,Bool.false_eq_true,if_false];omega
theorem Fx {n:Nat} (h:n<18446744073709551616):U n=n:=by unfold U;omega
theorem uh {h:H} {s:V} {xs:List UInt8} {n:Int} {k:Nat} (hb:nM g h s xs) (hlow:In (·<h.bX) s) (hk:k≤8) (hlen:xs.length≤2^39) :
  WF (E g) 48 [s,.int .i64 n,.int .i64 k] h fun v h'=>lq g h s h' v (xs++leB (U n) k):=by
 refine WF.enter fn48 rfl ?_;refine au ?_;refine ap ?_;(try simp only [aE,rL,rD,rB,reduceIte,ft ty2 rP rfl,mg]);refine au ?_;refine ao ?_
 refine WC.while (fun m fr hh=>∃ts i v,fr=⟨ts,24,[],48,none⟩∧lq g h s hh v (xs++leB (U n) i)∧m=k - i∧i≤k∧ts.get 0=some v∧ts.get 2=some (.int .i64 k)∧ts.get 7=some (.int .u64 (U n / 256^i:Nat))∧ts.get 8=some (.int .i64 i)) ?_ ⟨_,0,s,rfl,?_,rfl,by omega,?_,?_,?_,?_⟩
 ·rintro m fr hh ⟨ts,i,v,rfl,gr,rfl,hi,h0,h2,h7,h8⟩
  refine ap ?_;(try simp only [aE,rL,rD,rB,reduceIte,h2,h8]);refine aw ?_
  by_cases hlt:i<k
  ·refine aG (WC.skip ?_);refine az ?_;refine ao ?_;refine ap ?_;(try simp only [aE,rL,rD,rB,reduceIte,h0,h7,ft rP ty5 rfl,sg,vR]);refine dU cM rfl ty5 rfl rfl rfl ?_;intro h2' b2 n2 f2;refine az ?_;refine ye (ys:=[UInt8.ofNat (U n / 256^i)]) (gr.keep f2) cM (.inl ⟨_,rfl⟩) b2.sl.len b2.sl.cells (by simp [dw];omega) ?_;intro s' h3 gr3 _;rw [bV,←tL] at gr3;refine ax ?_;(try simp only [aE,rL,rD,rB,reduceIte,h7,Ay (show (256:Int)≠0 by decide)])
   refine ap ?_;(try simp only [aE,rL,rD,rB,reduceIte,h8,ct])
   refine ⟨_,?_,_,i+1,s',rfl,gr3,rfl,by omega,?_⟩
   ·omega
   (try simp only [aE,rL,rD,rB,reduceIte,h2])
   refine ⟨aD,aD,?_,?_⟩
   ·have hU:=U_lt n;have h1:U n / 256^(i+1)≤U n:=Nat.div_le_self _ _
    have e:IntKind.u64.wrap (((U n / 256^i:Nat):Int).tdiv 256)=((U n / 256^(i+1):Nat):Int):=by
     have:((256:Int))=((256:Nat):Int):=rfl;rw [this,HT,Nat.div_div_eq_div_mul,←Nat.pow_succ,Nat.succ_eq_add_one,uL,Nat.mod_eq_of_lt (by omega)]
    rw [e]
   ·rw [cy (by omega) (by omega)];rfl
  ·refine aF (WC.exit ?_);have:i=k:=by omega
   subst this;refine ax ?_;(try simp only [aE,rL,rD,rB,reduceIte,h0]);refine WC.ret ?_;refine az ?_;exact gr
 ·simpa [leB] using Grew.refl hb hlow
 all_goals (try simp only [aE,rL,rD,rB,reduceIte])
 all_goals simp
theorem gH {E:Env} {h:H} {c:Bool} {t:Nat} {a b:List UInt8}:fJ E h c .eql t (.str a) (.str b)=some (.bool (a==b)):=rfl
theorem eT {E:Env} {h:H} {c:Bool} {t:Nat} {a b:List UInt8}:fJ E h c .neq t (.str a) (.str b)=some (.bool (!(a==b))):=rfl
theorem gT {h:H} {s:List UInt8}:lenB (E g) h 9 (.str s)=some (.int .i64 s.length):=by
 simp only [lenB,ty9]
def eR (s:List UInt8):Int:=if s=[] then 9 else if 64<s.length then 21 else 0
theorem js {h:H} {s:List UInt8}:WF (E g) 62 [.str s] h fun v h'=>v=.int .i64 (eR s)∧h'=h:=by
 refine WF.enter fn62 rfl ?_;refine au ?_;refine ap ?_;(try simp only [aE,rL,rD,rB,reduceIte,gH]);refine aw ?_
 cases s with
 | nil =>
  refine aG ?_;refine au ?_;refine WC.ret ?_;refine az ?_;exact ⟨rfl,by trivial⟩
 | cons c r =>
  refine aF (WC.skip ?_);refine ax ?_;(try simp only [aE,rL,rD,rB,reduceIte,gT]);refine aw ?_
  by_cases hl:64<r.length+1
  ·refine aG ?_;refine au ?_;refine WC.ret ?_;refine az ?_;exact ⟨by rw [eR,if_neg (by simp),if_pos (by simpa using hl)],by trivial⟩
  ·refine aF (WC.skip ?_);refine ay ?_;refine WC.ret ?_;refine az ?_;exact ⟨by rw [eR,if_neg (by simp),if_neg (by simpa using hl)],by trivial⟩
def i64 (n:Int):V:=.int .i64 n
structure SymD where
 name:List UInt8
 sec:Int
 off:Int
 cn:Bool
 cm:Bool
structure RelD where
 sec:Int
 off:Int
 kind:Int
 sym:List UInt8
 add:Int
structure ObjD where
 name:List UInt8
 code:List UInt8
 data:List UInt8
 ce:List SymD
 ci:List RelD
 cf:List (List UInt8)
 entry:List UInt8
def iD (s:SymD):List V:=[.str s.name,i64 s.sec,i64 s.off,.bool s.cn,.bool s.cm]
def oY (r:RelD):List V:=[i64 r.sec,i64 r.off,i64 r.kind,.str r.sym,i64 r.add]
abbrev Ss (g:T (List V)) (h:H) (s:V) (L:List (List UInt8)):Prop:=Vs (E g) h V.str s L
abbrev Sy (g:T (List V)) (h:H) (s:V) (L:List SymD):Prop:=Rcs (E g) h 5 iD s L
abbrev Re (g:T (List V)) (h:H) (s:V) (L:List RelD):Prop:=Rcs (E g) h 5 oY s L
structure Oc where
 code:V
 data:V
 ce:V
 ci:V
 cf:V
def Oc.cells (c:Oc) (o:ObjD):List V:=[.str o.name,c.code,c.data,c.ce,c.ci,c.cf,.str o.entry]
structure Ob (g:T (List V)) (h:H) (K:Nat→Prop) (c:Oc) (o:ObjD):Prop where
 code:Bs g h c.code o.code
 data:Bs g h c.data o.data
 ce:Sy g h c.ce o.ce
 ci:Re g h c.ci o.ci
 cf:Ss g h c.cf o.cf
 inC:In K c.code
 inD:In K c.data
 inS:In K c.ce
 inR:In K c.ci
 inN:In K c.cf
theorem Ob.fix {h h':H} {K K':Nat→Prop} {c:Oc} {o:ObjD} (a:Ob g h K c o) (f:Fix K' h h') (hs:∀b,K b→K' b:=by (intro b hb;omega)):Ob g h' K c o :=
 ⟨Sl.fix a.code (a.inC.sub hs) f,Sl.fix a.data (a.inD.sub hs) f,Sl.fix a.ce (a.inS.sub hs) f,Sl.fix a.ci (a.inR.sub hs) f,Sl.fix a.cf (a.inN.sub hs) f,a.inC,a.inD,a.inS,a.inR,a.inN⟩
theorem Ob.up {h:H} {K K':Nat→Prop} {c:Oc} {o:ObjD} (a:Ob g h K c o) (hs:∀b,K b→K' b:=by (intro b hb;omega)):Ob g h K' c o :=
 ⟨a.code,a.data,a.ce,a.ci,a.cf,a.inC.sub hs,a.inD.sub hs,a.inS.sub hs,a.inR.sub hs,a.inN.sub hs⟩
def mW (s:List UInt8):Int:=if 64<s.length then 21 else 0
theorem tG {h:H} {s:List UInt8} {e:Bool}:WF (E g) 80 [.str s,.bool e] h fun v h'=>v=.int .i64 (if e then mW s else eR s)∧h'=h:=by
 refine WF.enter fn80 rfl ?_;refine au ?_;refine ao ?_;refine ap ?_;have hz:(V.str ([]:List UInt8))=.str []:=rfl
 cases s with
 | nil =>
  cases e with
  | false =>
   (try simp only [aE,rL,rD,rB,reduceIte,gH,beq_self_eq_true,cY,bE]);refine aw ?_;refine aG ?_;refine au ?_;refine WC.ret ?_;refine az ?_;exact ⟨rfl,by trivial⟩
  | true =>
   (try simp only [aE,rL,rD,rB,reduceIte,gH,beq_self_eq_true,cY,aV]);refine aw ?_;refine aF ?_;refine ap ?_;(try simp only [aE,rL,rD,rB,reduceIte,gT]);refine aw ?_;refine aF (WC.skip ?_);refine ay ?_;refine WC.ret ?_;refine az ?_;exact ⟨rfl,by trivial⟩
 | cons c r =>
  have hb:((c::r)==([]:List UInt8))=false:=rfl;(try simp only [aE,rL,rD,rB,reduceIte,gH,hb]);refine aw ?_;refine aF ?_;refine ap ?_;(try simp only [aE,rL,rD,rB,reduceIte,gT]);refine aw ?_
  by_cases hl:64<r.length+1
  ·refine aG ?_;refine au ?_;refine WC.ret ?_;refine az ?_;refine ⟨?_,by trivial⟩
   cases e<;>simp [eR,mW,hl]
  ·refine aF (WC.skip ?_);refine ay ?_;refine WC.ret ?_;refine az ?_;refine ⟨?_,by trivial⟩
   cases e<;>simp [eR,mW,hl]
def cU (o:ObjD) (n:Int):Int:=if n=1 then (o.code.length:Int) else if n=2 then (o.data.length:Int) else 0
theorem D8 {h:H} {K:Nat→Prop} {b:Nat} {c:Oc} {o:ObjD} {n:Int} (hb:Has h b (c.cells o)) (ob:Ob g h K c o):WF (E g) 86 [.ptr b 0,i64 n] h fun v h'=>v=i64 (cU o n)∧h'=h:=by
 have hb:Has h b [.str o.name,c.code,c.data,c.ce,c.ci,c.cf,.str o.entry]:=hb;refine WF.enter fn86 rfl ?_;refine au ?_;refine au ?_;refine ao ?_;refine ap ?_;(try simp only [aE,rL,rD,rB,reduceIte,i64]);refine aw ?_
 by_cases h1:n=1
 ·subst h1;refine aG ?_;refine ap ?_;(try simp only [aE,rL,rD,rB,reduceIte,xG,aH,hb.at cM rfl,ob.code.len]);refine WC.ret ?_;refine az ?_;exact ⟨rfl,by trivial⟩
 ·refine WC.cond (b:=false) (by (try simp only [aE,rL,rD,rB,reduceIte,h1]);(try simp);(try omega)) ?_;refine au ?_;refine aw ?_
  by_cases h2:n=2
  ·subst h2;refine aG ?_;refine ap ?_;(try simp only [aE,rL,rD,rB,reduceIte,xE,aH,hb.at cM rfl,ob.data.len]);refine WC.ret ?_;refine az ?_;exact ⟨rfl,by trivial⟩
  ·refine WC.cond (b:=false) (by (try simp only [aE,rL,rD,rB,reduceIte,h2]);(try simp);(try omega)) (WC.skip ?_);refine ay ?_;refine WC.ret ?_;refine az ?_;exact ⟨by rw [cU,if_neg h1,if_neg h2],by trivial⟩
end Go.Proofs.OP
