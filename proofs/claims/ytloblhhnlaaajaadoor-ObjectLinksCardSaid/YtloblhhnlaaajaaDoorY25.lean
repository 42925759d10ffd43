/- The guard of this seat's laws answers true, whatever is drawn, where the table of kinds is laid. -/
import Derived.Test.YtloblhhnlaaajaaDoorY24
set_option linter.unusedVariables false
set_option linter.unusedSimpArgs false
set_option linter.defProp false
namespace Go.Proofs.OP
open Go Go.Ev Go.RowKit
open Go.Proofs
open Nat renaming reduceLT → rL, reduceEqDiff → rD, reduceBEq → rB
def jA:List V:=[.bool false,.bool false,.bool false,.bool true,.bool true,.bool false]
noncomputable def E0:Env:=pR Tryd.prog (List.range 275) (List.range 171) [] [] [] (T.lf.set 0 jA)
theorem mixed:Tryd.prog.follows .mixedOrders=true:=by kernel_rfl
theorem es_ok:(es.all fun t => !Tryd.prog.eqGuardType Tryd.prog.depth t && !Tryd.prog.stoodInHeld t)=true:=by kernel_rfl
theorem E0ok:EnvOk Tryd.prog E0:=Hi mixed _ _ _ _ _ rfl _ (fun _ h=>by cases h)
theorem has9:(E0.fns.get 9).isSome=true:=by kernel_rfl
theorem run9:vN ((ev E0 (1000000+1)).call 9 [] h0)=true:=by kernel_rfl
def rho0:Rho:=fun _=>.bool true
theorem C4:Plain rho0:=fun _=>⟨(fun _ h=>by cases h),(fun _ h=>by cases h)⟩
theorem Eok (g:T (List V)) (hg:g.get 0=some jA):EnvOk Tryd.prog (E g):=by
 unfold E;refine Hh mixed _ _ _ _ _ es_ok _ sk_ok g (fun f h ρ w gl=>?_);obtain rfl:f=9:=by simpa using h
 refine Hj E0ok C4 1000000 9 has9 run9 (fun k cs hk=>?_);simp only [E0,pR,T.get_set,T.get_lf] at hk
 split at hk
 ·rename_i e;subst e;injection hk with hk;subst hk;obtain ⟨arr,e,fz,h1,h2⟩:=gl 0 jA hg;refine ⟨arr,e,fz,h1,fun j v hj hv=>?_⟩;obtain ⟨x,x1,x2⟩:=h2 j v hj hv;refine ⟨x,?_,x2⟩;have hm:=bR hj;simp only [jA,aW,List.not_mem_nil,or_false] at hm;rcases hm with rfl|rfl|rfl|rfl|rfl|rfl<;>exact x1
 ·cases hk
end Go.Proofs.OP
