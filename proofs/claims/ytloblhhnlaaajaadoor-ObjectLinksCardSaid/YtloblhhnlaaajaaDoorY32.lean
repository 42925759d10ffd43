/- More for walks: lookups in drawn regions, entries of ranges, new slices; tables by names. -/
import Derived.Test.YtloblhhnlaaajaaDoorY31
set_option maxHeartbeats 8000000
set_option maxRecDepth 100000
set_option linter.unusedVariables false
set_option linter.unusedSimpArgs false
set_option linter.defProp false
namespace Go.Ev
open Go
section
variable {E : Env}
section
variable {ih : Rec} {d : Option Nat} {t : Nat} {p : String} {a : Array Edge} {g : Option (Nat × Bool)} {fr : Fr} {h : H} {Q : V → H → Prop}
theorem fP {ty:Nat} {x y:Operand} {ok:Bool}:opV E ih fr h ⟨d,.lookup ty x y ok,t,p,a,g⟩=rv h ((opd fr x).bind fun u=>(opd fr y).bind fun v=>gJ E h ty u v ok):=by
 simp only [opV]
 cases opd fr x with
 | none=>rfl
 | some c=>cases opd fr y<;>rfl
theorem w_entry {x:Operand}:WOp E fr h ⟨d,.entry x,t,p,a,g⟩ Q=ej (rv h ((opd fr x).bind fun u=>rA h u)) Q:=by
 simp only [WOp,opV]
 cases opd fr x<;>rfl
end
theorem wX:∀(l:List Nat) (x:Nat),zi (l++[x])=some x
 | [],_=>rfl
 | [_],_=>rfl
 | _::b::r,x=>by
  have:=wX (b::r) x;simpa [zi] using this
theorem tO:∀(L:List (List UInt8×V)) (n j:Nat) (hj:j<L.length),kG (n+j) (dG n L)=some (.str L[j].1,L[j].2)
 | [],n,j,hj=>by simp at hj
 | p::r,n,0,_=>by simp [dG,kG]
 | p::r,n,j+1,hj=>by
  have h1:Nat.beq n (n+(j+1))=false:=by
   cases hb:Nat.beq n (n+(j+1)) with
   | false=>rfl
   | true=>have:=aS hb;omega
  have:=tO r (n+1) j (by simpa using hj);simp only [dG,kG,h1,cond_false];rw [show n+(j+1)=n+1+j by omega,this];simp
theorem Jm {h:H} {b m j:Nat} {seen:List Nat} {L:List (List UInt8×V)} (hb:Itr h b m L.length (seen++[j])) (hm:Mq h m L) (hj:j<L.length):rA h (.ptr b 0)=some (.tuple [.str L[j].1,L[j].2]):=by
 have hb':h.t.get b=some (.mapIter (some m) L.length (seen++[j]) L.length):=hb;have hm':h.t.get m=some (.map (dG 0 L) L.length):=hm;have h1:Nat.beq L.length L.length=true:=by simp
 have:=tO L 0 j hj;rw [aH] at this;simp only [rA,hb',wX,hm',h1,cond_true,this,bo]
theorem rU {α:Type} {v:α}:∀{s k:Nat},k<s→nth (List.replicate s v) k=some v
 | 0,k,h=>by omega
 | s+1,0,_=>rfl
 | s+1,k+1,h=>by
  rw [List.replicate_succ];exact rU (by omega)
theorem iQ {h:H} {t e n s:Nat} {v:V} {i ei:TI} {Q:V→H→Prop} (ht:E.tys.get t=some i) (hd:i.desc=.slice e) (he:E.tys.get e=some ei) (hz:ei.zero=List.replicate s v) (hs:ei.size=s) (hpos:0<s) (hbytes:ei.bytes * n≤281474976710656) (hn:n<9223372036854775808)
  (q:∀h',Has h' h.bX (List.replicate (n * s) v)→h'.bX=h.bX+1→Fix (·<h.bX) h h'→Q (.slice h.bX 0 n (.lit n)) h'):ej (r1 (jj E h t (.int .i64 n) (.int .i64 n))) Q:=by
 have h1:(Nat.ble n n&&Nat.ble (ei.bytes * n) 281474976710656&&Nat.blt n 9223372036854775808)=true:=by
  rw [cQ (aI n),cQ hbytes,gF hn];rfl
 simp only [jj,ht,fW,hd,he,h1,cond_true,H.new,jz]
 refine q _ ⟨.lf,ei.zero,e,0,?_,?_⟩ rfl ⟨Nat.le_succ _,fun c hc=>by simp only [T.get_set];rw [if_neg (Nat.ne_of_lt hc)]⟩
 ·simp only [T.get_set,if_true,List.length_replicate,hs]
 ·rw [List.length_replicate];refine eu (by simp) fun j hj=>?_;rw [aH,List.getElem?_replicate,if_pos hj];unfold eH;rw [gF hj,cond_true,T.get_lf,hz];simp only
  match s,hpos with
  | 1,_=>rfl
  | s+2,_ =>
   show nth (List.replicate (s+2) v) (Nat.mod j (List.replicate (s+2) v).length)=some v;rw [List.length_replicate];exact rU (Nat.mod_lt _ (by omega))
end
def al {α:Type} (k:List UInt8):List (List UInt8×α)→Option α
 | []=>none
 | p::r=>if p.1=k then some p.2 else al k r
def ia {α:Type} (k:List UInt8) (x:α):List (List UInt8×α)→List (List UInt8×α)
 | []=>[(k,x)]
 | p::r=>if p.1=k then (k,x)::r else p::ia k x r
def mv {α:Type} (f:α→V) (L:List (List UInt8×α)):List (List UInt8×V):=L.map fun p=>(p.1,f p.2)
theorem uo {α:Type} (f:α→V) (L:List (List UInt8×α)):(mv f L).length=L.length:=by simp [mv]
theorem EO {α:Type} (f:α→V) (L:List (List UInt8×α)):(mv f L).map (·.1)=L.map (·.1):=by simp [mv,List.map_map,Function.comp_def]
theorem I8 {α:Type} (f:α→V) (k:List UInt8):∀(L:List (List UInt8×α)),lk k (mv f L)=(al k L).map f
 | []=>rfl
 | p::r=>by
  have ih:=I8 f k r
  by_cases h:p.1=k
  ·simp [mv,lk,al,h]
  ·simp only [mv,bI,lk,al,if_neg h];exact ih
theorem sW {α:Type} (f:α→V) (k:List UInt8) (x:α):∀(L:List (List UInt8×α)),ins k (f x) (mv f L)=mv f (ia k x L)
 | []=>rfl
 | p::r=>by
  have ih:=sW f k x r
  by_cases h:p.1=k
  ·simp [mv,ins,ia,h]
  ·simp only [mv,bI,ins,ia,if_neg h]
   congr 1
theorem vG {α:Type} (k:List UInt8) (x:α):∀(L:List (List UInt8×α)),(ia k x L).map (·.1)=if k∈L.map (·.1) then L.map (·.1) else L.map (·.1)++[k]
 | []=>by simp [ia]
 | p::r=>by
  have ih:=vG k x r
  by_cases h:p.1=k
  ·subst h;simp [ia]
  ·simp only [ia,if_neg h,bI,ih,aW]
   by_cases h2:k∈r.map (·.1)
   ·rw [if_pos h2,if_pos (.inr h2)]
   ·rw [if_neg h2, if_neg (by rintro (q | q); · exact h q.symm
                              ·exact h2 q)];rfl
theorem xn {α:Type} {k:List UInt8} {x:α} {L:List (List UInt8×α)} (h:(L.map (·.1)).Nodup):((ia k x L).map (·.1)).Nodup:=by
 rw [vG]
 split
 ·exact h
 ·rename_i hk;rw [List.nodup_append];exact ⟨h,by simp,fun a ha b hb=>by rw [aN] at hb;subst hb;rintro rfl;exact hk ha⟩
theorem ux {α:Type} (k:List UInt8) (x:α):∀(L:List (List UInt8×α)),(ia k x L).length≤L.length+1
 | []=>by simp [ia]
 | p::r=>by
  have ih:=ux k x r
  by_cases h:p.1=k
  ·simp [ia,h]
  ·simp only [ia,if_neg h,aO];omega
theorem vp {α:Type} (k k':List UInt8) (x:α):∀(L:List (List UInt8×α)),al k' (ia k x L)=if k=k' then some x else al k' L
 | []=>by simp [ia,al]
 | p::r=>by
  have ih:=vp k k' x r
  by_cases h:p.1=k
  ·subst h;simp only [ia,if_true,al]
   split<;>rfl
  ·simp only [ia,if_neg h,al,ih]
   by_cases h2:p.1=k'
   ·rw [if_pos h2,if_neg (fun e=>h (h2.trans e.symm)),if_pos h2]
   ·rw [if_neg h2,if_neg h2]
theorem AC {α:Type} {k:List UInt8}:∀{L:List (List UInt8×α)} {x:α},al k L=some x→(k,x)∈L
 | [],x,h=>by cases h
 | p::r,x,h=>by
  simp only [al] at h
  split at h
  ·rename_i hp;injection h with h;subst hp h;exact aT ..
  ·exact aM _ (AC h)
theorem Fw {α:Type} {k:List UInt8}:∀{L:List (List UInt8×α)},al k L=none↔k∉L.map (·.1)
 | []=>by simp [al]
 | p::r=>by
  by_cases h:p.1=k
  ·subst h;simp [al]
  ·simp only [al,if_neg h,Fw (L:=r),bI,aW,not_or];exact ⟨fun q=>⟨fun e=>h e.symm,q⟩,fun q=>q.2⟩
section
variable {E : Env} {h : H} {b ty kt et : Nat} {α : Type} {f : α → V} {L : List (List UInt8 × α)} {i ki ei : TI} {k : List UInt8}
theorem FP {z:α} (m:Mq h b (mv f L)) (ht:E.tys.get ty=some i) (hd:i.desc=.map kt et) (hk:E.tys.get kt=some ki) (hkd:ki.desc=.string) (he:E.tys.get et=some ei) (hz:ei.zv=f z) :
  gJ E h ty (.map b) (.str k) true=some (.tuple [f ((al k L).getD z),.bool (al k L).isSome]):=by
 rw [EP m.mp ht hd hk hkd he,I8,hz]
 cases al k L<;>rfl
theorem sj {z:α} (m:Mq h b (mv f L)) (ht:E.tys.get ty=some i) (hd:i.desc=.map kt et) (hk:E.tys.get kt=some ki) (hkd:ki.desc=.string) (he:E.tys.get et=some ei) (hz:ei.zv=f z) :
  gJ E h ty (.map b) (.str k) false=some (f ((al k L).getD z)):=by
 rw [lookup1 m.mp ht hd hk hkd he,I8,hz]
 cases al k L<;>rfl
end
end Go.Ev
namespace Go.Proofs.OP
open Go Go.Ev
open Go.Proofs
open Nat renaming reduceLT → rL, reduceEqDiff → rD, reduceBEq → rB
variable {g : T (List V)}
theorem Oc.one {c:Oc} {x:ObjD} {h:H} {K:Nat→Prop} (ob:Ob g h K c x):(c.cells x).all V.one=true:=by
 simp only [Oc.cells,List.all_cons,List.all_nil,(Sl.one ob.code).2,(Sl.one ob.data).2,(Sl.one ob.ce).2,(Sl.one ob.ci).2,(Sl.one ob.cf).2,Bool.and_true];rfl
structure Obs (g:T (List V)) (h:H) (K:Nat→Prop) (s:V) (L:List (Oc×ObjD)):Prop where
 sl:Rcs (E g) h 7 (fun p=>p.1.cells p.2) s L
 ins:In K s
 ob:∀p∈L,Ob g h K p.1 p.2
theorem Obs.fix {h h':H} {K K':Nat→Prop} {s:V} {L:List (Oc×ObjD)} (a:Obs g h K s L) (f:Fix K' h h') (hs:∀b,K b→K' b:=by (intro b hb;omega)):Obs g h' K s L :=
 ⟨Sl.fix a.sl (a.ins.sub hs) f,a.ins,fun p hp=>(a.ob p hp).fix f hs⟩
theorem Obs.up {h:H} {K K':Nat→Prop} {s:V} {L:List (Oc×ObjD)} (a:Obs g h K s L) (hs:∀b,K b→K' b:=by (intro b hb;omega)):Obs g h K' s L :=
 ⟨a.sl,a.ins.sub hs,fun p hp=>(a.ob p hp).up hs⟩
theorem nf {a b:Int} (h:a=b):(a==b)=true:=by simp [h]
theorem li {a b:Int} (h:¬a=b):(a==b)=false:=by simp [h]
theorem nb2:Nat.beq 2 2=true:=rfl
theorem nb3:Nat.beq 3 3=true:=rfl
theorem nb4:Nat.beq 4 4=true:=rfl
theorem nb6:Nat.beq 6 6=true:=rfl
theorem nb8:Nat.beq 8 8=true:=rfl
def tP (L:List (Oc×ObjD)):Bool:=L.all (fun p=>xy p.2)&&decide ((L.length:Int)≤22)
theorem Hg {h:H} {ls:V} {L:List (Oc×ObjD)} (a:Obs g h (·<h.bX) ls L) (r:∀p∈L,Room p.2) (lL:L.length<2^62):WF (E g) 8 [ls] h fun v h'=>v=.bool (tP L)∧cH h h':=by
 refine WF.enter fn8 rfl ?_;refine au ?_;refine ap ?_;(try simp only [aE,rL,rD,rB,reduceIte,Sl.lenB a.sl gM rfl]);refine ao ?_
 refine WC.while (fun m fr hh=>∃ts i,fr=⟨ts,18,[],8,none⟩∧cH h hh∧m=L.length - i∧i≤L.length∧ts.get 0=some ls∧ts.get 5=some ls∧ts.get 6=some (.int .i64 L.length)∧ts.get 7=some (.int .i64 i)∧(L.take i).all (fun p=>xy p.2)=true) ?_ ⟨_,0,rfl,Fix.refl _ _,rfl,by omega,?_,?_,?_,?_,by simp⟩
 ·rintro m fr hh ⟨ts,i,rfl,ff,rfl,hi,t0,t5,t6,t7,hall⟩
  have xh:=ff.bX;have ah:=(a.fix ff fun _ h=>h).up (K':=(·<hh.bX)) fun b hb=>by omega
  refine ap ?_;(try simp only [aE,rL,rD,rB,reduceIte,t6,t7]);refine aw ?_
  by_cases hlt:i<L.length
  ·refine aG (WC.skip ?_);refine az ?_;obtain ⟨p,p1,p2⟩:=ah.sl.at (fun _=>rfl) gM rfl eP rfl (by decide) rfl hlt;have p2:=p2 hh fun _ _ _ _ _=>rfl;have hmem:=aP hlt;have obi:=ah.ob _ hmem;refine ao ?_;refine ap ?_;(try simp only [aE,rL,rD,rB,reduceIte,t5,t7,p1,p2]);refine cz eP ?_;intro h4 b4 n4 f4;refine az ?_;refine cq b4 eP rfl (aI 7) (Oc.one obi) ?_;intro h5 b5 n5 f5;have b5:Has h5 hh.bX (L[i].1.cells L[i].2):=b5
   have F5:cH hh h5:=⟨by omega,fun b hb=>by rw [f5.ca b (by omega),f4.ca b hb]⟩;have l5:cx (E g) h5 70 (.ptr hh.bX 0)=some (.agg (L[i].1.cells L[i].2)):=b5.agg eP rfl (aI 7);refine ax ?_;(try simp only [aE,rL,rD,rB,reduceIte,l5]);refine (few_ok ((obi.fix F5 fun _ h=>h).up) (r _ hmem)).mono fun v h6 ⟨e6,f6⟩=>?_;subst e6;have x6:=f6.bX;have F6:cH h h6:=⟨by omega,fun b hb=>by rw [f6.ca b (by omega),F5.ca b (by omega),ff.ca b hb]⟩
   (try simp only [aE,rL,rD,rB,reduceIte,cY]);refine aw ?_
   cases hri:xy L[i].2 with
   | false =>
    refine WC.cond (b:=true) (by (try simp only [aE,rL,rD,rB,reduceIte,hri]);(try simp);(try omega)) ?_;refine ay ?_;refine WC.ret ?_;refine az ?_;exact ⟨by rw [tP,all_no hlt hri,Bool.false_and],F6⟩
   | true =>
    refine WC.cond (b:=false) (by (try simp only [aE,rL,rD,rB,reduceIte,hri]);(try simp);(try omega)) (WC.skip ?_);refine ax ?_;(try simp only [aE,rL,rD,rB,reduceIte,t7,ct])
    refine ⟨_,?_,_,i+1,rfl,F6,rfl,by omega,?_⟩
    ·omega
    (try simp only [aE,rL,rD,rB,reduceIte,t0,t5,t6]);refine ⟨aD,aD,aD,?_,by rw [HU hlt,hall,hri];rfl⟩;rw [cy (by omega) (by omega)];rfl
  ·refine aF (WC.exit ?_);have:i=L.length:=by omega
   subst this;rw [bv] at hall;refine ax ?_;(try simp only [aE,rL,rD,rB,reduceIte,t0,Sl.lenB ah.sl gM rfl]);refine WC.ret ?_;refine az ?_;exact ⟨by rw [tP,hall,Bool.true_and],ff⟩
 all_goals (try simp only [aE,rL,rD,rB,reduceIte])
 all_goals (first|done|rfl|trivial|simp)
theorem GO {a b c d e f i:V} {cs:List V} (h:cs.length=7):cW (fun k=>some (k * 7,7)) (j8 [a,b,c,d,e,f,i] 1) [(0,.agg cs)]=some cs:=by
 match cs,h with
 | [_,_,_,_,_,_,_],_=>rfl
theorem all_ok {K:Nat→Prop} {h:H} {ls:V} {L:List (Oc×ObjD)} (hK:∀b,K b→b<h.bX) (a:Obs g h K ls L) (fL:∀p∈L,Fits p.2) (lL:L.length≤2^30) :
  WF (E g) 11 [ls] h fun v h'=>∃A:List (Oc×ObjD),A.map (·.2)=L.map (·.2)∧Obs g h' (fun b=>h.bX≤b∧b<h'.bX) v A∧Whole v A.length∧cH h h':=by
 refine WF.enter fn11 rfl ?_;refine au ?_;refine au ?_;refine ap ?_;(try simp only [aE,rL,rD,rB,reduceIte,Sl.lenB a.sl gM rfl]);refine ao ?_
 refine WC.while (fun m fr hh=>∃ts i s,∃A:List (Oc×ObjD),fr=⟨ts,19,[],11,none⟩∧cH h hh∧m=L.length - i∧i≤L.length∧ts.get 3=some s∧ts.get 6=some ls∧ts.get 7=some (.int .i64 L.length)∧ts.get 8=some (.int .i64 i)∧A.map (·.2)=(L.take i).map (·.2)∧Buf (E g) hh 77 7 s i (A.flatMap fun p=>p.1.cells p.2)∧In (fun b=>h.bX≤b∧b<hh.bX) s∧∀p∈A,Ob g hh (fun b=>h.bX≤b∧b<hh.bX∧ij s≠some b) p.1 p.2) ?_ ⟨_,0,.nils,[],rfl,Fix.refl _ _,rfl,by omega,?_,?_,?_,?_,rfl,Buf.nil,In.nils,fun p hp=>by cases hp⟩
 ·rintro m fr hh ⟨ts,i,s,A,rfl,ff,rfl,hi,t3,t6,t7,t8,hA,bf,sin,hobs⟩
  have xh:=ff.bX;have ah:=a.fix ff hK;refine ap ?_;(try simp only [aE,rL,rD,rB,reduceIte,t7,t8]);refine aw ?_
  by_cases hlt:i<L.length
  ·refine aG (WC.skip ?_);refine az ?_;obtain ⟨p,p1,p2⟩:=ah.sl.at (fun _=>rfl) gM rfl eP rfl (by decide) rfl hlt;have p2:=p2 hh fun _ _ _ _ _=>rfl;have hmem:=aP hlt;have obi:=(ah.ob _ hmem).up (K':=(·<hh.bX)) fun b hb=>by have:=hK b hb;omega
   refine ao ?_;refine ap ?_;(try simp only [aE,rL,rD,rB,reduceIte,t6,t8,p1,p2]);refine cz eP ?_;intro h4 b4 n4 f4;refine az ?_;refine cq b4 eP rfl (aI 7) (Oc.one obi) ?_;intro h5 b5 n5 f5;have b5:Has h5 hh.bX (L[i].1.cells L[i].2):=b5;have F5:cH hh h5:=⟨by omega,fun b hb=>by rw [f5.ca b (by omega),f4.ca b hb]⟩;have l5:cx (E g) h5 70 (.ptr hh.bX 0)=some (.agg (L[i].1.cells L[i].2)):=b5.agg eP rfl (aI 7)
   refine ax ?_;(try simp only [aE,rL,rD,rB,reduceIte,t3,l5]);refine (to_ok ((obi.fix F5 fun _ h=>h).up) (fL _ hmem)).mono fun v h6 ⟨c6,e6,ob6,f6⟩=>?_;subst e6;have x6:=f6.bX;refine az ?_;refine de (cs:=c6.cells L[i].2) jr rfl iq rfl (by decide) (by decide) (GO rfl) rfl ?_;intro h7 bl n7 f7;refine az ?_;have F7:cH hh h7:=⟨by omega,fun b hb=>by rw [f7.ca b (by omega),f6.ca b (by omega),F5.ca b hb]⟩;have bf7:=bf.fix (K:=(·<hh.bX)) (sin.sub fun b hb=>hb.2) F7
   refine df (m:=1) (ws:=c6.cells L[i].2) bf7 jr rfl jr (.inl ⟨_,rfl⟩) iq rfl (by decide) (by decide) (Sl.len bl.sl) (Sl.cells bl.sl) rfl (Oc.one ob6) (show (i+1) * 152≤140737488355328 by omega) (sin.sub) ?_;intro s' h8 bf8 i8 o8 f8;have x8:=f8.bX;refine ax ?_;(try simp only [aE,rL,rD,rB,reduceIte,t8,ct]);have F8:cH h h8:=⟨by omega,fun b hb=>by rw [f8.ca b ⟨by omega,fun o k cc e=>by have:=sin _ _ _ _ e;omega⟩,F7.ca b (by omega),ff.ca b hb]⟩
   have hne:∀b,ij s'=some b→b=h7.bX∨ij s=some b:=fun b e=>by
    cases s'<;>simp only [ij,Option.some.injEq,reduceCtorEq] at e
    subst e
    rcases o8 _ _ _ _ rfl with q|⟨o,k,c,q⟩
    ·exact .inl q
    ·exact .inr (by rw [q];rfl)
   refine ⟨_,?_,_,i+1,s',A++[(c6,L[i].2)],rfl,F8,rfl,by omega,?_⟩
   ·omega
   (try simp only [aE,rL,rD,rB,reduceIte,t6,t7])
   refine ⟨aD,aD,aD,?_,?_,?_,?_,?_⟩
   ·rw [cy (by omega) (by omega)];rfl
   ·rw [List.map_append,hA,bW hlt,List.map_append];rfl
   ·rw [zu];exact bf8
   ·refine fun b o n c e=>⟨?_,i8 _ _ _ _ e⟩
    rcases hne b (by rw [e];rfl) with q|q
    ·omega
    ·have:=sin.blk q;omega
   ·intro p hp
    rcases bN.1 hp with q|q
    ·have:=hobs p q;refine ((this.fix F7 fun b hb=>hb.2.1).fix f8 fun b hb=>⟨by omega,fun o k cc e=>hb.2.2 (by rw [e];rfl)⟩).up fun b hb=>⟨hb.1,by omega,fun e=>?_⟩
     rcases hne b e with r|r
     ·omega
     ·exact hb.2.2 r
    ·rw [aN] at q;subst q;refine ((ob6.fix f7 fun b hb=>hb.2).fix f8 fun b hb=>⟨by omega,fun o k cc e=>by have:=sin _ _ _ _ e;omega⟩).up fun b hb=>⟨by omega,by omega,fun e=>?_⟩
     rcases hne b e with r|r
     ·omega
     ·have:=sin.blk r;omega
  ·refine aF (WC.exit ?_);have:i=L.length:=by omega
   subst this;rw [bv] at hA;have hlA:A.length=L.length:=by simpa using congrArg List.length hA
   refine ax ?_;(try simp only [aE,rL,rD,rB,reduceIte,t3]);refine WC.ret ?_;refine az ?_;rw [←hlA] at bf;exact ⟨A,hA,⟨bf.sl,sin,fun p hp=>(hobs p hp).up fun b hb=>⟨hb.1,hb.2.1⟩⟩,bf.whole,ff⟩
 all_goals (try simp only [aE,rL,rD,rB,reduceIte])
 all_goals (first|done|rfl|trivial|simp)
end Go.Proofs.OP
