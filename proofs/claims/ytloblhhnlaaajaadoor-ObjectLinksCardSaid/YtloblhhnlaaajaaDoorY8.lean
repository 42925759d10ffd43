/- More rounds, and more known variables, never change an answer. -/
import Derived.Test.YtloblhhnlaaajaaDoorY7
set_option linter.unusedVariables false
set_option linter.unusedSimpArgs false
set_option linter.defProp false
namespace Go.Ev
open Go
structure LeR (ih ih':Rec):Prop where
 code:∀c fr h l,ih.code c fr h=some l→ih'.code c fr h=some l
 call:∀f a h l,ih.call f a h=some l→ih'.call f a h=some l
 yield:∀f a h l,ih.yield f a h=some l→ih'.yield f a h=some l
theorem LeR.refl (ih:Rec):LeR ih ih:=⟨fun _ _ _ _ h=>h,fun _ _ _ _ h=>h,fun _ _ _ _ h=>h⟩
theorem LeR.trans {a b c:Rec} (h:LeR a b) (k:LeR b c):LeR a c :=
 ⟨fun _ _ _ _ e=>k.code _ _ _ _ (h.code _ _ _ _ e),fun _ _ _ _ e=>k.call _ _ _ _ (h.call _ _ _ _ e),fun _ _ _ _ e=>k.yield _ _ _ _ (h.yield _ _ _ _ e)⟩
theorem qu {α β:Type} {f g:α→R β}:∀{l:List α} {r:List β},(∀x r,f x=some r→g x=some r)→j9 f l=some r→j9 g l=some r
 | [],r,_,h=>h
 | x::l,r,hf,h=>by
  simp only [j9] at h ⊢
  cases hx:f x with
  | none=>rw [hx] at h;cases h
  | some a =>
   rw [hx] at h;simp only at h
   cases hl:j9 f l with
   | none=>rw [hl] at h;cases h
   | some b =>
    rw [hl] at h;rw [hf _ _ hx];simp only;rw [qu hf hl];exact h
theorem ge {α β:Type} {a a':R α} {f g:α→R β} {r:List β} (ha:∀l,a=some l→a'=some l) (hf:∀x r,f x=some r→g x=some r) (h:ji a f=some r):ji a' g=some r:=by
 unfold ji at h ⊢
 cases a with
 | none=>cases h
 | some l =>
  rw [ha l rfl];simp only at h ⊢
  split at h
  ·exact hf _ _ h
  ·exact qu hf h
section
variable {E : Env} {g' : T (List V)} {ih ih' : Rec}
theorem pL (hr:LeR ih ih') {h:H} {f:V} {args:List V} {l:List (V×H)} (hv:lO ih h f args=some l):lO ih' h f args=some l:=by
 unfold lO at hv ⊢
 split at hv
 ·exact hr.call _ _ _ _ hv
 ·exact hr.yield _ _ _ _ hv
 ·cases hv
theorem Dk (hg:∀k cs,E.globs.get k=some cs→g'.get k=some cs) {t g o:Nat} {v:V} (h:rX E t g o=some v):rX {E with globs:=g'} t g o=some v:=by
 unfold rX at h ⊢;simp only
 split at h
 ·cases h
 ·rename_i i hi
  try rw [hi]
  try simp only at h ⊢
  split at h
  ·rename_i cs hcs;rw [hg _ _ hcs];exact h
  ·cases h
theorem keyEq_g {h:H} {kd:TypeDesc} {k k':V}:va {E with globs:=g'} h kd k k'=va E h kd k k':=rfl
theorem vI {h:H} {kd:TypeDesc} {k:V}:∀{es:List (V×V×Nat)} {i:Nat},gU {E with globs:=g'} h kd k es i=gU E h kd k es i
 | [],_=>rfl
 | (_,_,_)::r,i=>by simp only [gU,keyEq_g,vI (es:=r)]
theorem EJ {t:Nat} {cs:List V} {o:Nat}:oa {E with globs:=g'} t cs o=oa E t cs o:=rfl
theorem xJ {g:Nat→V→V→Option Bool} {xs ys:List V}:∀{fs:List Field},np {E with globs:=g'} g xs ys fs=np E g xs ys fs
 | []=>rfl
 | f::fs=>by simp only [np,EJ,xJ (fs:=fs)]
theorem xK {g:Nat→V→V→Option Bool} {e s:Nat} {xs ys:List V}:∀{is:List Nat},qM {E with globs:=g'} g e s xs ys is=qM E g e s xs ys is
 | []=>rfl
 | i::is=>by simp only [qM,EJ,xK (is:=is)]
theorem eqT_g:∀(n:Nat),eqT {E with globs:=g'} n=eqT E n
 | 0=>rfl
 | n+1=>by funext ty x y;simp only [eqT,eqT_g n,xJ,xK]
theorem eqV_g {h:H} {t:Nat} {x y:V}:eqV {E with globs:=g'} h t x y=eqV E h t x y:=by
 simp only [eqV,eqT_g,xJ,xK]
theorem binV_g {h:H} {k:Bool} {op:BinOp} {t:Nat} {x y:V}:fJ {E with globs:=g'} h k op t x y=fJ E h k op t x y:=by
 simp only [fJ,eqV_g];rfl
theorem GS {h:H} {t:Nat} {m k:V} {ok:Bool}:gJ {E with globs:=g'} h t m k ok=gJ E h t m k ok:=by
 simp only [gJ,vI];rfl
theorem FJ {h:H} {t:Nat} {m k v:V}:iX {E with globs:=g'} h t m k v=iX E h t m k v:=by
 simp only [iX,vI];rfl
theorem Hk {h:H} {t:Nat} {m k:V}:rC {E with globs:=g'} h t m k=rC E h t m k:=by
 simp only [rC,vI];rfl
theorem lenB_g {h:H} {t:Nat} {x:V}:lenB {E with globs:=g'} h t x=lenB E h t x:=rfl
theorem HX {h:H} {t b o:Nat} {x:V}:pB {E with globs:=g'} h t b o x=pB E h t b o x:=rfl
theorem Ae {h:H} {t:Nat} {l c:V}:jj {E with globs:=g'} h t l c=jj E h t l c:=rfl
theorem HZ {t:Nat} {x:V} {a b c:Option V}:eL {E with globs:=g'} t x a b c=eL E t x a b c:=rfl
theorem vU (hg:∀k cs,E.globs.get k=some cs→g'.get k=some cs) {a:Addr} {k:Nat} {v:List V} (h:lG E a k=some v):lG {E with globs:=g'} a k=some v:=by
 unfold lG at h ⊢
 split at h
 ·exact h
 ·split at h
  ·split at h
   ·rename_i cs hcs
    try dsimp only
    rw [hg _ _ hcs];exact h
   ·cases h
  ·cases h
theorem kN (hg:∀k cs,E.globs.get k=some cs→g'.get k=some cs) {h:H} {sz n:Nat} {x:V} {v:List V} (hv:cX E h sz n x=some v):cX {E with globs:=g'} h sz n x=some v:=by
 unfold cX at hv ⊢
 split at hv
 ·exact hv
 ·exact hv
 ·rename_i a m c
  cases hb:Nat.ble n m with
  | false=>simp only [hb] at hv;cases hv
  | true=>simp only [hb,cond_true] at hv ⊢;exact vU hg hv
 ·exact hv
 ·cases hv
theorem tV (hg:∀k cs,E.globs.get k=some cs→g'.get k=some cs) {h:H} {t:Nat} {s x:V} {v:V×H} (hv:fK E h t s x=some v):fK {E with globs:=g'} h t s x=some v:=by
 unfold fK at hv ⊢
 try dsimp only at hv
 try dsimp only at ⊢
 split at hv
 ·cases hv
 ·split at hv
  ·split at hv
   ·split at hv
    ·cases hv
    ·rename_i new hnew;rw [kN hg hnew];simp only
     cases hb:(!new.all V.one) with
     | true=>simp only [hb] at hv;cases hv
     | false =>
      simp only [hb,cond_false] at hv ⊢
      split at hv
      ·exact hv
      ·rename_i b o m c _;generalize hb2:(!(Nat.ble _ _&&_&&_))=bb at hv ⊢
       cases bb with
       | true=>cases hv
       | false =>
        simp only [cond_false] at hv ⊢
        split at hv
        ·rename_i cp;generalize hb3:Nat.ble _ cp=b3 at hv ⊢
         cases b3 with
         | true=>exact hv
         | false =>
          simp only [cond_false] at hv ⊢
          split at hv
          ·rename_i old hold;rw [kN hg hold];exact hv
          ·cases hv
        ·exact hv
      ·cases hv
   ·cases hv
  ·cases hv
theorem AA (hg:∀k cs,E.globs.get k=some cs→g'.get k=some cs) {h:H} {e n:Nat} {ei:TI} {s:V} {new:List V} {v:V×H} (hv:rH E h e ei s new n=some v):rH {E with globs:=g'} h e ei s new n=some v:=by
 unfold rH at hv ⊢
 try dsimp only at hv
 try dsimp only at ⊢
 split at hv
 ·exact hv
 ·rename_i b o m c;generalize hb2:(!(Nat.ble _ _&&_&&_))=bb at hv ⊢
  cases bb with
  | true=>cases hv
  | false =>
   simp only [cond_false] at hv ⊢
   split at hv
   ·rename_i cp;generalize hb3:Nat.ble _ cp=b3 at hv ⊢
    cases b3 with
    | true=>exact hv
    | false =>
     simp only [cond_false] at hv ⊢
     split at hv
     ·rename_i old hold;rw [kN hg hold];exact hv
     ·cases hv
   ·exact hv
 ·cases hv
theorem yD (hg:∀k cs,E.globs.get k=some cs→g'.get k=some cs) {h:H} {t:Nat} {s x:V} {v:V×H} (hv:nF E h t s x=some v):nF {E with globs:=g'} h t s x=some v:=by
 unfold nF at hv ⊢
 try dsimp only at hv
 try dsimp only at ⊢
 split at hv
 ·cases hv
 ·split at hv
  ·split at hv
   ·obtain ⟨hb,hv⟩:=cI hv;rw [hb];exact AA hg hv
   ·cases hv
  ·cases hv
theorem DD (hg:∀k cs,E.globs.get k=some cs→g'.get k=some cs) {h:H} {t:Nat} {s x:V} {v:V×H} (hv:qO E h t s x=some v):qO {E with globs:=g'} h t s x=some v:=by
 unfold qO at hv ⊢
 try dsimp only at hv
 try dsimp only at ⊢
 split at hv
 ·cases hv
 ·split at hv
  ·split at hv
   ·split at hv
    ·cases hv
    ·rename_i new hnew;rw [kN hg hnew];exact hv
   ·cases hv
  ·cases hv
theorem DE (hg:∀k cs,E.globs.get k=some cs→g'.get k=some cs) {h:H} {s d:Nat} {x:V} {v:V×H} (hv:j3 E h s d x=some v):j3 {E with globs:=g'} h s d x=some v:=by
 unfold j3 at hv ⊢
 try dsimp only at hv
 try dsimp only at ⊢
 split at hv
 ·split at hv
  ·exact hv
  ·exact hv
  ·exact hv
  ·exact hv
  ·exact hv
  ·exact hv
  ·split at hv
   ·split at hv
    ·split at hv
     ·rename_i cs hcs;rw [vU hg hcs];exact hv
     ·cases hv
    ·cases hv
   ·cases hv
  ·cases hv
 ·cases hv
theorem tD {a b:Option (V×H)} {l:List (V×H)} (hab:∀v,a=some v→b=some v) (hv:r1 a=some l):r1 b=some l:=by
 unfold r1 at hv ⊢
 cases a with
 | none=>cases hv
 | some x=>rw [hab x rfl];exact hv
theorem yC (hg:∀k cs,E.globs.get k=some cs→g'.get k=some cs) {h:H} {b:Builtin} {ts:List Nat} {args:List V} {l:List (V×H)} (hv:iP E h b ts args=some l):iP {E with globs:=g'} h b ts args=some l:=by
 unfold iP at hv ⊢
 split at hv
 ·simp only [lenB_g];exact hv
 ·split at hv
  ·split at hv
   ·rename_i i hi;simp only [hi]
    split at hv
    ·exact tD (fun v=>tV hg) hv
    ·exact tD (fun v=>tV hg) hv
    ·exact tD (fun v=>yD hg) hv
    ·cases hv
   ·cases hv
  ·cases hv
 ·split at hv
  ·exact tD (fun v=>DD hg) hv
  ·cases hv
 ·simp only [Hk];exact hv
 ·exact hv
 ·exact hv
 ·cases hv
theorem mU (hg:∀k cs,E.globs.get k=some cs→g'.get k=some cs) (hr:LeR ih ih') {fr:Fr} {h:H} {o:Oper} {l:List (V×H)} (hv:opV E ih fr h o=some l):opV {E with globs:=g'} ih' fr h o=some l:=by
 unfold opV at hv ⊢
 cases ho:o.op with
 | load t a =>
  rw [ho] at hv;simp only at hv ⊢
  split at hv
  ·exact hv
  ·unfold rv at hv ⊢
   split at hv
   ·cases hv
   ·rename_i v hv';rw [Dk hg hv'];exact hv
  ·cases hv
 | call c =>
  rw [ho] at hv;simp only at hv ⊢
  split at hv
  ·split at hv
   ·exact pL hr hv
   ·cases hv
  ·exact yC hg hv
  ·split at hv
   ·split at hv
    ·exact hr.call _ _ _ _ hv
    ·cases hv
   ·cases hv
  ·cases hv
 | convert s t x =>
  rw [ho] at hv;simp only at hv ⊢
  split at hv
  ·exact tD (fun v=>DE hg) hv
  ·cases hv
 | _=>rw [ho] at hv;simp only [binV_g,GS,FJ,Ae,HZ,HX] at hv ⊢;exact hv
theorem rj (hg:∀k cs,E.globs.get k=some cs→g'.get k=some cs) (hr:LeR ih ih') {all:List Oper}:∀{ops:List Oper} {fr:Fr} {h:H} {l:List (Fr×H)},tF E ih all ops fr h=some l→tF {E with globs:=g'} ih' all ops fr h=some l
 | [],_,_,_,h=>h
 | o::r,fr,h,l,hv=>by
  simp only [tF] at hv ⊢
  split at hv
  ·cases hv
  ·split at hv
   ·exact rj hg hr hv
   ·cases hv
  ·refine ge (fun l hl=>mU hg hr hl) (fun x r hx=>?_) hv
   split at hx
   ·exact rj hg hr hx
   ·cases hx
theorem Bx (hg:∀k cs,E.globs.get k=some cs→g'.get k=some cs) (hr:LeR ih ih') {v:V} {fr:Fr} {o:Oper} {h:H} (hv:sI E ih v fr o h=true):sI {E with globs:=g'} ih' v fr o h=true:=by
 unfold sI at hv ⊢
 split at hv
 ·rename_i v' h' ho;rw [mU hg hr ho];exact hv
 ·cases hv
theorem nP (hg:∀k cs,E.globs.get k=some cs→g'.get k=some cs) (hr:LeR ih ih') {m:Nat} {fr:Fr} {h:H}:∀{l:List (Nat×Oper×V)},g0 E ih m fr h l=true→g0 {E with globs:=g'} ih' m fr h l=true
 | [],h=>h
 | (k,o,v)::r,hv=>by
  simp only [g0,aU,bS] at hv ⊢;exact ⟨hv.1.imp id (Bx hg hr),nP hg hr hv.2⟩
theorem ES:iB {E with globs:=g'}=iB E:=rfl
theorem EH {done:Nat}:∀{ps:List Pn},kx {E with globs:=g'} done ps=kx E done ps
 | []=>rfl
 | p::r=>by simp only [kx,ES,EH (ps:=r)]
theorem EI {done:Nat}:∀{ps:List Pn},jY {E with globs:=g'} done ps=jY E done ps
 | []=>rfl
 | p::r=>by simp only [jY,ES,EI (ps:=r)]
theorem my (hg:∀k cs,E.globs.get k=some cs→g'.get k=some cs) (hr:LeR ih ih') {all:List Oper}:∀{n:Nat} {ps:List Pn} {done:Nat} {rd:List (Nat×Oper×V)} {fr:Fr} {h:H} {l:List (Fr×H)},
  kw E ih all n ps done rd fr h=some l→kw {E with globs:=g'} ih' all n ps done rd fr h=some l
 | 0,[],_,_,_,_,_,h=>h
 | _+1,[],_,_,_,_,_,h=>h
 | 0,_::_,_,_,_,_,_,h=>by cases h
 | n+1,p::ps,done,rd,fr,h,l,hv=>by
  unfold kw at hv ⊢;rw [EH,EI]
  split at hv
  ·rename_i q rest hq
   split at hv
   ·cases hv
   ·split at hv
    ·exact my hg hr hv
    ·cases hv
   ·split at hv
    ·rename_i v h1 ho;rw [mU hg hr ho];simp only
     split at hv
     ·exact my hg hr hv
     ·cases hv
    ·cases hv
  ·refine qu (fun x r hx=>?_) hv
   split at hx
   ·cases hx
   ·split at hx
    ·exact my hg hr hx
    ·cases hx
   ·refine ge (fun l hl=>mU hg hr hl) (fun y r hy=>?_) hx
    cases hs:g0 E ih x.1.2.1 fr y.2 rd with
    | false=>rw [hs] at hy;cases hy
    | true =>
     rw [hs] at hy;rw [nP hg hr hs];simp only [cond_true] at hy ⊢
     split at hy
     ·exact my hg hr hy
     ·cases hy
theorem xO (hg:∀k cs,E.globs.get k=some cs→g'.get k=some cs) (hr:LeR ih ih') {ops:List Oper} {fr:Fr} {h:H} {l:List (Fr×H)} (hv:drawn E ih ops fr h=some l):drawn {E with globs:=g'} ih' ops fr h=some l:=by
 unfold drawn at hv ⊢;simp only at hv ⊢
 cases hd:xP ops (iZ ops (pZ ops []) 0) with
 | false=>rw [hd] at hv;cases hv
 | true =>
  rw [hd] at hv;exact my hg hr hv
theorem wE {fr:Fr} {h:H}:∀rs,resV {E with globs:=g'} fr h rs=resV E fr h rs
 | []=>rfl
 | r::rs=>by simp only [resV,wE rs];rfl
theorem qU (hr:LeR ih ih') {lb:Nat} {fr:Fr} {h:H} {l:List (Ex×Fr×H)} (hv:kK ih lb fr h=some l):kK ih' lb fr h=some l:=by
 unfold kK at hv ⊢
 split at hv
 ·split at hv
  ·cases hv
  ·unfold zX at hv ⊢
   split at hv
   ·exact hv
   ·exact hr.code _ _ _ _ hv
 ·cases hv
theorem yo (hg:∀k cs,E.globs.get k=some cs→g'.get k=some cs) (hr:LeR ih ih') {c:Code} {fr:Fr} {h:H} {l:List (Ex×Fr×H)} (hv:eZ E ih c fr h=some l):eZ {E with globs:=g'} ih' c fr h=some l:=by
 unfold eZ at hv ⊢
 cases c with
 | region id ops draw =>
  simp only at hv ⊢;refine ge (fun l hl=>?_) (fun x r hx=>hx) hv
  cases draw with
  | true=>exact xO hg hr hl
  | false=>exact rj hg hr hl
 | seq a b =>
  simp only at hv ⊢;refine ge (fun l hl=>hr.code _ _ _ _ hl) (fun x r hx=>?_) hv
  split at hx
  ·exact hr.code _ _ _ _ hx
  ·exact hx
 | cond c a b =>
  simp only at hv ⊢
  split at hv
  ·exact hr.code _ _ _ _ hv
  ·exact hr.code _ _ _ _ hv
  ·cases hv
 | block id body =>
  simp only at hv ⊢;exact ge (fun l hl=>hr.code _ _ _ _ hl) (fun x r hx=>hx) hv
 | loop body =>
  simp only at hv ⊢;refine ge (fun l hl=>hr.code _ _ _ _ hl) (fun x r hx=>?_) hv
  split at hx
  ·exact hr.code _ _ _ _ hx
  ·exact hx
 | scope body=>exact hr.code _ _ _ _ hv
 | rangeFunc f ps asg body =>
  simp only at hv ⊢
  split at hv
  ·split at hv
   ·refine ge (fun l hl=>pL hr hl) (fun x r hx=>qU hr hx) hv
   ·cases hv
  ·split at hv
   ·split at hv
    ·refine ge (fun l hl=>pL hr hl) (fun x r hx=>qU hr hx) hv
    ·cases hv
   ·cases hv
 | _=>exact hv
theorem sf (hr:LeR ih ih') {f:Nat} {i:FI} {args:List V} {h:H} {l:List (V×H)} (hv:ll E ih f i args h=some l):ll {E with globs:=g'} ih' f i args h=some l:=by
 unfold ll at hv ⊢
 cases hb:Nat.ble args.length i.nt with
 | false=>rw [hb] at hv;cases hv
 | true =>
  rw [hb] at hv;simp only [cond_true] at hv ⊢;refine ge (fun l hl=>hr.code _ _ _ _ hl) (fun x r hx=>?_) hv;simp only [wE];exact hx
theorem yp (hr:LeR ih ih') {f:Nat} {args:List V} {h:H} {l:List (V×H)} (hv:gh E ih f args h=some l):gh {E with globs:=g'} ih' f args h=some l:=by
 unfold gh at hv ⊢;simp only at hv ⊢
 split at hv
 ·unfold oQ at hv ⊢;simp only at hv ⊢
  split at hv
  ·exact hv
  ·split at hv
   ·split at hv
    ·rename_i l' hl;rw [sf hr hl];exact hv
    ·cases hv
   ·exact hv
 ·exact sf hr hv
theorem vX (hr:LeR ih ih') {f:Nat} {args:List V} {h:H} {l:List (V×H)} (hv:mn ih f args h=some l):mn ih' f args h=some l:=by
 unfold mn at hv ⊢
 split at hv
 ·split at hv
  ·cases hv
  ·refine ge (fun l hl=>hr.code _ _ _ _ hl) (fun x r hx=>?_) hv
   split at hx
   ·split at hx
    ·exact ge (fun l hl=>hr.code _ _ _ _ hl) (fun y r hy=>hy) hx
    ·cases hx
   ·cases hx
 ·cases hv
theorem zO (hg:∀k cs,E.globs.get k=some cs→g'.get k=some cs) (hr:LeR ih ih'):LeR (vy E ih) (vy {E with globs:=g'} ih') :=
 ⟨fun _ _ _ _ h=>yo hg hr h,fun _ _ _ _ h=>yp hr h,fun _ _ _ _ h=>vX hr h⟩
theorem Fa (E:Env):∀n,LeR (ev E n) (ev E (n+1))
 | 0=>⟨fun _ _ _ _ h=>(by cases h),fun _ _ _ _ h=>(by cases h),fun _ _ _ _ h=>(by cases h)⟩
 | n+1=>zO (g':=E.globs) (fun _ _ h=>h) (Fa E n)
theorem xI (E:Env) {n m:Nat} (h:n≤m):LeR (ev E n) (ev E m):=by
 induction h with
 | refl=>exact LeR.refl _
 | step _ ih=>exact ih.trans (Fa E _)
end
end Go.Ev
