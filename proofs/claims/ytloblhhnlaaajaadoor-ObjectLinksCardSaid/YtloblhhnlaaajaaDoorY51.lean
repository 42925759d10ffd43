/- ObjectLinks, as given. -/
import Derived.Test.YtloblhhnlaaajaaDoorY50
import Derived.Test.YtloblhhnlaaajaaDoorCards
import Derived.Test.YtloblhhnlaaajaaDoorTie
import Derived.Deep.DeepLaidRun
import Derived.Lib.LaidTab
set_option maxRecDepth 100000
set_option linter.unusedVariables false
set_option linter.unusedSimpArgs false
set_option linter.defProp false
namespace Go.Proofs.OP
open Go Go.Ev Go.RowKit Go.ChangeShapes Go.WideShapes Go.ChangeAt
open Go.Proofs YtloblhhnlaaajaaDoor
theorem bytes70:Tryd.prog.bytesOf 70=152:=by kernel_rfl
section
variable {H : Type} {enc : TypeId × Value → H} {W : World} {base : Nat} {sp : Nat → Bool} {held : Bool}
theorem obj_in2 {n:Nat} {cs:List Value} {y:DataW H×List MemPlace} (h:DataW.trod enc Tryd.prog W base sp held n 70 cs=some y) (hw:Wts Tryd.prog 70 y.1) :
  ∃q:Oc×ObjD,(Room q.2∧∀hp K,Ob (gW W) hp K q.1 q.2)∧(q.1.cells q.2).length=7∧∀(j:Nat) c,cs[j]?=some c→∃v,(q.1.cells q.2)[j]?=some v∧AbsC c v:=by
 obtain ⟨xs,m,rfl,rfl,hl,hn,hi⟩:=DataW.trod_struct Tryd.underlying70 h;rw [OP.Fn] at hl;obtain ⟨c0,c1,c2,c3,c4,c5,c6,rfl⟩:=list7 hl;obtain ⟨x0,x1,x2,x3,x4,x5,x6,rfl⟩:=list7 hn;have i0:=fld hi 0 9 0 rfl rfl rfl xX;have i1:=fld hi 1 27 1 rfl rfl rfl Fo;have i2:=fld hi 2 27 2 rfl rfl rfl Fo;have i3:=fld hi 3 67 3 rfl rfl rfl cells67;have i4:=fld hi 4 68 4 rfl rfl rfl cells68;have i5:=fld hi 5 30 5 rfl rfl rfl cells30
 have i6:=fld hi 6 9 6 rfl rfl rfl xX;obtain ⟨nm,e0,_,_⟩:=DataW.trod_string Tryd.underlying9 (show DataW.trod enc Tryd.prog W base sp held m 9 [c0]=some x0 from i0);obtain ⟨c1',cv,cd,e1,hcv,_,hcs,hco⟩:=Jy (E:=E (gW W)) oz Tryd.underlying27 Tryd.underlying5 DH (show DataW.trod enc Tryd.prog W base sp held m 27 [c1]=some x1 from i1) (oN hw Tryd.underlying70 (j:=1) rfl rfl);obtain ⟨c2',dv,dd,e2,hdv,_,hds,hdo⟩:=Jy (E:=E (gW W)) oz Tryd.underlying27 Tryd.underlying5 DH (show DataW.trod enc Tryd.prog W base sp held m 27 [c2]=some x2 from i2) (oN hw Tryd.underlying70 (j:=2) rfl rfl)
 obtain ⟨c3',sv,S,e3,hsv,hS,hsl,hss,hso⟩:=wi (α:=SymD) (f:=iD) (E:=E (gW W)) oz Tryd.underlying67 Cu (by decide) (fun n cs' y hy hw=>sym_in hy hw) (show DataW.trod enc Tryd.prog W base sp held m 67 [c3]=some x3 from i3) (oN hw Tryd.underlying70 (j:=3) rfl rfl);obtain ⟨c4',rv,R,e4,hrv,hR,hrl,hrs,hro⟩:=wi (α:=RelD) (f:=oY) (E:=E (gW W)) oz Tryd.underlying68 Cv (by decide) (fun n cs' y hy hw=>rel_in hy hw) (show DataW.trod enc Tryd.prog W base sp held m 68 [c4]=some x4 from i4) (oN hw Tryd.underlying70 (j:=4) rfl rfl)
 obtain ⟨c5',nv,N,e5,hnv,_,hnl,hns,hno⟩:=wi (α:=List UInt8) (f:=fun s=>[V.str s]) (Pr:=fun _=>True) (E:=E (gW W)) oz Tryd.underlying30 xX (by decide) (fun n cs' y hy hw=>str_in hy hw) (show DataW.trod enc Tryd.prog W base sp held m 30 [c5]=some x5 from i5) (oN hw Tryd.underlying70 (j:=5) rfl rfl);obtain ⟨en,e6,_,_⟩:=DataW.trod_string Tryd.underlying9 (show DataW.trod enc Tryd.prog W base sp held m 9 [c6]=some x6 from i6)
 injection e0 with e0;injection e1 with e1;injection e2 with e2;injection e3 with e3;injection e4 with e4;injection e5 with e5;injection e6 with e6;subst e0 e1 e2 e3 e4 e5 e6;rw [Jz,tC] at hsl;rw [JA,tC] at hrl;rw [bytes9,tC] at hnl
 refine ⟨(⟨cv,dv,sv,rv,nv⟩,⟨nm.data.toList,cd,dd,S,R,N,en.data.toList⟩),⟨⟨?_,?_,?_⟩,fun hp K=>⟨hcs hp,hds hp,hss hp,hrs hp,?_,?_,?_,?_,?_,?_⟩⟩,rfl,fun j c hj=>?_⟩
 ·show S.length<_;omega
 ·show R.length<_;omega
 ·show N.length<_;omega
 ·have:=hns hp;rwa [←List.map_eq_flatMap] at this
 ·exact fun b o n k e=>absurd e (hco b o n k)
 ·exact fun b o n k e=>absurd e (hdo b o n k)
 ·exact fun b o n k e=>absurd e (hso b o n k)
 ·exact fun b o n k e=>absurd e (hro b o n k)
 ·exact fun b o n k e=>absurd e (hno b o n k)
 ·match j,hj with
  | 0,hj=>injection hj with hj;subst hj;exact ⟨_,rfl,AbsC.str⟩
  | 1,hj=>injection hj with hj;subst hj;exact ⟨_,rfl,hcv⟩
  | 2,hj=>injection hj with hj;subst hj;exact ⟨_,rfl,hdv⟩
  | 3,hj=>injection hj with hj;subst hj;exact ⟨_,rfl,hsv⟩
  | 4,hj=>injection hj with hj;subst hj;exact ⟨_,rfl,hrv⟩
  | 5,hj=>injection hj with hj;subst hj;exact ⟨_,rfl,hnv⟩
  | 6,hj=>injection hj with hj;subst hj;exact ⟨_,rfl,AbsC.str⟩
  | j+7,hj=>simp at hj
def ReadO (W:World) (q:Oc×ObjD):Prop:=Room q.2∧∀hp K,Ob (gW W) hp K q.1 q.2
end
theorem gVals:Tryd.prog.globalNamed "orpiment/object.values"=some 0:=by kernel_rfl
theorem gValsType:(Tryd.prog.globals[0]?).map (·.type)=some 185:=by kernel_rfl
theorem gMags:Tryd.prog.globalNamed "orpiment/object.magics"=some 1:=by kernel_rfl
theorem gMagsType:(Tryd.prog.globals[1]?).map (·.type)=some 200:=by kernel_rfl
theorem var_cells {W:World} {n:String} {g:Nat} {cs:Array Value} (hg:Tryd.prog.globalNamed n=some g) (hv:W.var? Tryd.prog n=some cs):∃arr e fz,W.heap[g]?=some (.cells arr e fz)∧arr=cs:=by
 simp only [World.var?,hg,bQ] at hv
 split at hv
 ·rename_i arr e fz hb;injection hv with hv;exact ⟨arr,e,fz,hb,hv⟩
 ·cases hv
theorem laid_gs {W:World} (h:laidMetH Tryd.prog [("orpiment/object.magics",Rows.laid_orpiment_object_magics),("orpiment/object.values",Rows.laid_orpiment_object_values)] W):(gW W).get 0=some jA∧(gW W).get 1=some I5:=by
 obtain ⟨ps,⟨g1,t1,cs1,fuel1,p1,q1,hg1,ht1,hv1,hd1,⟨g2,t2,cs2,fuel2,p2,q2,hg2,ht2,hv2,hd2,_,_⟩,_⟩,_⟩:=(show laidMet Tryd.prog [("orpiment/object.magics",Rows.laid_orpiment_object_magics),("orpiment/object.values",Rows.laid_orpiment_object_values)] W from h);obtain rfl:=Option.some.inj (gMags.symm.trans hg1);obtain rfl:=Option.some.inj (gMagsType.symm.trans ht1);obtain rfl:=Option.some.inj (gVals.symm.trans hg2)
 obtain rfl:=Option.some.inj (gValsType.symm.trans ht2);have c1:=Af hd1;have c2:=zK hd2;obtain ⟨a1,e1,z1,b1,r1⟩:=var_cells gMags hv1;obtain ⟨a2,e2,z2,b2,r2⟩:=var_cells gVals hv2
 constructor
 ·refine EW b2 (by rw [r2,c2];rfl) (fun k v hv=>?_);rw [r2,c2] at hv;simp only [Jh,aW,List.not_mem_nil,or_false] at hv;rcases hv with rfl|rfl|rfl|rfl|rfl|rfl<;>rfl
 ·refine EW b1 (by rw [r1,c1];rfl) (fun k v hv=>?_);rw [r1,c1] at hv;simp only [mags,aW,List.not_mem_nil,or_false] at hv;rcases hv with rfl|rfl|rfl|rfl|rfl|rfl|rfl|rfl<;>rfl
def setc (vs:List Value):Obj→Obj
 | .cells _ t frozen=>.cells vs.toArray t frozen
 | o=>o
noncomputable def laidWorld (os:Os):World :=
 {World.holding Tryd.prog os ⟨#[],#[],[]⟩ with heap:=((World.holding Tryd.prog os ⟨#[],#[],[]⟩).heap.modify 0 (setc Jh)).modify 1 (setc mags)}
end Go.Proofs.OP
namespace Go.Proofs.YtloblhhnlaaajaaDoor.objectLinks
open Go Go.Ev Go.RowKit Go.ChangeShapes Go.WideShapes Go.ChangeAt Go.Proofs Go.Proofs.OP
theorem has (g:T (List V)):((E g).fns.get 5).isSome=true:=by rw [fn5];rfl
theorem reads:∀t∈Tryd.f5.params.toList,Tryd.prog.readableRec t=true∧t<Tryd.prog.types.size:=by
 rw [Tryd.params5];intro t ht;simp only [aW,List.not_mem_nil,or_false] at ht
 rcases ht with rfl|rfl
 ·exact ⟨by kernel_rfl,of_decide_eq_true (by kernel_rfl)⟩
 ·exact ⟨by kernel_rfl,of_decide_eq_true (by kernel_rfl)⟩
theorem resTy:Tryd.f5.resultTypes=#[4]:=by kernel_rfl
theorem contract (H:Type) (enc:TypeId×Value→H) (W:World) (base:Nat) (args:Array Value) (ds gs:List (DataW H)) (before:List MemPlace)
  (hval:∀(j:Nat) t v,Tryd.f5.params[j]?=some t→args[j]?=some v→Value.okWide Tryd.prog W .any base t v)
  (hW:DataW.Whole enc Tryd.prog Tryd.f5.params.toList Rows.objectLinksSpec.vars false W args.toList ds gs before)
  (hsz:(DataW.weightsEach Tryd.prog (Tryd.f5.params.toList++(OpenSpec.ofChange Rows.objectLinksSpec).bare.plain.varTypes Tryd.prog) (ds++gs)).all (·≤reachBytes)=true) (hL:laidMetH Tryd.prog Rows.objectLinksRow.laid W) :
  Calls Tryd.prog 5 args W fun e W'=>∃v,e=.returned v∧Rows.objectLinksSpec.post enc Tryd.prog Tryd.f5 false true false false W args v W':=by
 have hW':=hW;obtain ⟨hg0,hg1⟩:=laid_gs hL;obtain ⟨p,q,hA0,hV,rfl,hfz,hnd⟩:=hW;have hA:DataW.TrodAll enc Tryd.prog W 0 (fun _=>true) true Tryd.f5.params.toList args.toList ds p:=hA0;rw [Tryd.params5] at hA hval hsz;obtain ⟨v0,vs0,d0,ds0,p0,q0,hargs,rfl,rfl,⟨n0,h0⟩,r0⟩:=trodAll_cons hA;obtain ⟨v1,vs1,d1,ds1,p1,q1,hargs1,rfl,rfl,h1,r1⟩:=trodAll_cons r0;obtain ⟨rfl,rfl,rfl⟩:=trodAll_nil r1;subst hargs1
 obtain rfl:args=#[v0,v1]:=by cases args;simp_all
 obtain ⟨rfl,rfl⟩:=trodVars_none hV;obtain ⟨n1,h1⟩:=h1;obtain ⟨a0,l0,k0,rfl⟩:=okWide_slice Tryd.underlying22 (hval 0 22 v0 rfl rfl);obtain ⟨nb,rfl,rfl,rfl,wb⟩:=open_int Tryd.underlying2 (hval 1 2 v1 rfl rfl) ⟨n1,h1⟩;obtain ⟨c0,lv,L,e0,hlv,hL0,hlen,hls,hlo⟩:=wi (α:=Oc×ObjD) (f:=fun p=>p.1.cells p.2) (Pr:=ReadO W) (E:=E (gW W)) oz Tryd.underlying22 OP.Fn (by decide) (fun n cs' y hy hw=>obj_in2 hy hw) h0 (HA hsz (j:=0) rfl rfl)
 obtain rfl:Value.slice a0 l0 k0=c0:=by
  have:[Value.slice a0 l0 k0]=[c0]:=e0;injection this
 rw [bytes70,tC] at hlen
 have walk:Calls Tryd.prog 5 #[.slice a0 l0 k0,.int .i64 nb] W fun e w'=>e=.returned (.bool true)∧Below W.heap.size W w' :=
  by
   refine Jx (ρ:=Gt W) (A:=[.slice a0 l0 k0,.int .i64 nb]) (Eok (gW W) hg0) (C3 W) (has _) ((I9 hg0 hg1 (a:=⟨hls _,fun b o n k e=>absurd e (hlo b o n k),fun p hq=>(hL0 p hq).2 _ _⟩) (fun x hx=>(hL0 x hx).1) (by omega))) (eM (hlv.conc _ _) (eM rfl rfl)) ?_;have:=globsW (E:=E (gW W)) W;have e:({E (gW W) with globs:=gW W}:Env)=E (gW W):=by unfold E iy;rfl
   rwa [e] at this
 refine walk.mono fun e W' ⟨he,hb⟩=>?_;subst he;exact ⟨_,rfl,GB laidOut reads rfl resTy Tryd.underlying4 hW' rfl hb⟩
def wargs:Array Value:=#[.slice none 0 0,.int .i64 0]
theorem laid_met (os:Os):laidMet Tryd.prog Rows.objectLinksRow.laid ((laidWorld os).forCall (fun _ _=>0) ⟨#[],wargs,[]⟩).memory :=
 laidMet_of_run3 8 (by kernel_rfl) (by kernel_rfl) (by kernel_rfl)
theorem read0 (os:Os) {H:Type} (enc:TypeId×Value→H):∃places,DataW.whole enc Tryd.prog ((laidWorld os).forCall (fun _ _=>0) ⟨#[],wargs,[]⟩).memory Tryd.f5.params.toList Rows.objectLinksSpec.vars false wargs.toList 8=some ([.nil,.lit (.int .i64 0)],[],places) :=
 ⟨[],by kernel_rfl⟩
theorem lifted (os:Os) (started:os.Started) (H:Type) (enc:TypeId×Value→H) (F:Stop.Interp) :
  ReturnsInHanded {} Tryd.checked os 5 .any ((OpenSpec.ofChange Rows.objectLinksSpec).preRow enc Tryd.prog Tryd.f5 Rows.objectLinksRow.domain false Rows.objectLinksRow.laid) (((OpenSpec.ofChange Rows.objectLinksSpec).at F).post enc Tryd.prog Tryd.f5 false true false false):=by
 obtain ⟨places,hx⟩:=read0 os enc
 refine returnsInHanded_of_row (C:=Tryd.checked) (s:=OpenSpec.ofChange Rows.objectLinksSpec) own started (by kernel_rfl) Tryd.func5
  (witness_row_at (enc:=enc) (C:=Tryd.checked) false (laidWorld os) wargs rfl (by kernel_rfl) (by kernel_rfl) (by kernel_rfl)
   (OpenSpec.preRow_of_cond 8 hx (by kernel_rfl) (fun k hk=>by cases hk) (by kernel_rfl) (laid_met os))) ?_
 intro W base args ds gs before hval hW _ _ hsz hL _ _;exact contract H enc W base args ds gs before hval hW hsz hL
theorem said:Rows.ObjectLinksSaid :=
 OpenClaim.holds_of_cond 5 Tryd.f5 rfl rfl rfl rfl rfl rfl rfl ⟨rfl,rfl,rfl,rfl,rfl⟩ rfl rfl rfl rfl rfl (by kernel_rfl) Tryd.func5 (by kernel_rfl)
  (of_decide_eq_true (by kernel_rfl)) (by unfold Func.isWrapper;first|(rw [if_pos (by decide +kernel)];kernel_rfl)|(rw [if_neg (by decide +kernel)];exact ⟨rfl,rfl⟩))
  (fun os started H enc _ F=>by rw [OpenClaim.pre_eq_preRow];exact lifted os started H enc F)
theorem plain (f:FuncId) (fn:Func) (hf:Tryd.pinned.checked.prog.funcNamed "orpiment/orpimentlaw15.ObjectLinks"=some f) (hfn:Tryd.pinned.checked.prog.funcs[f]?=some fn) :
  false=Tryd.pinned.checked.prog.looks []∧∀(j:Nat) t,fn.params[j]?=some t→Tryd.pinned.checked.prog.wantsStandIn t=false:=by
 obtain rfl:f=5:=Option.some.inj ((show Tryd.prog.funcNamed "orpiment/orpimentlaw15.ObjectLinks"=some 5 by kernel_rfl).symm.trans hf) |>.symm;obtain rfl:fn=Tryd.f5:=(Option.some.inj (Tryd.func5.symm.trans hfn)).symm;refine ⟨by kernel_rfl,fun j t ht=>?_⟩;rw [Tryd.params5] at ht;have hm:=Array.mem_of_getElem? ht;simp only [List.mem_toArray,aW,List.not_mem_nil,or_false] at hm
 rcases hm with rfl|rfl
 ·exact (show Tryd.prog.wantsStandIn 22=false by kernel_rfl)
 ·exact (show Tryd.prog.wantsStandIn 2=false by kernel_rfl)
theorem card:Rows.ObjectLinksCardSaid :=
 Claim7.holds_tied_plain_at .later [] _ _ _ _ said (fun _ h=>by cases h) (by kernel_rfl) (fun _ h=>by cases h) objectLinks_row_tie rfl ⟨rfl,rfl⟩ (by kernel_rfl) rfl plain (by kernel_rfl)
end Go.Proofs.YtloblhhnlaaajaaDoor.objectLinks
