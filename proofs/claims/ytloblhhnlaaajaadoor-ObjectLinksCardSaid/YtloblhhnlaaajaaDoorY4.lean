/- Conversions and lengths. -/
import Derived.Test.YtloblhhnlaaajaaDoorY3
import Derived.Laws.IdiomStrings
set_option linter.unusedVariables false
set_option linter.unusedSimpArgs false
set_option linter.defProp false
namespace Go.Ev
open Go
section
variable {P : Program} {E : Env} {ρ : Rho} {μ : Mu}
theorem vo:∀{cs:List V} {s:List UInt8} {C:List Value},tW cs=some s→cE ρ μ cs=some C→C=(s.map (fun b=>(b.toNat:Int))).map (Value.int .u8)∨∃ns:List Int,C=ns.map (Value.int .u8)∧ns.length=s.length∧∀(i:Nat) n,ns[i]?=some n→s[i]?=some (UInt8.ofNat n.toNat)
 | [],s,C,h,hc=>by simp [tW] at h;subst h;simp [cE] at hc;subst hc;exact .inl rfl
 | v::r,s,C,h,hc=>by
  right
  simp only [tW] at h;obtain ⟨x,l,rfl,hx,hr⟩:=dQ hc
  split at h
  ·cases h
  ·rename_i c hv
   split at h
   ·cases h
   ·rename_i l' hl;injection h with h;subst h;unfold JG at hv
    split at hv
    ·rename_i n;injection hv with hv;subst hv;simp only [conc] at hx;injection hx with hx;subst hx;have ih:=vo hl hr
     have ih':∃ns:List Int,l=ns.map (Value.int .u8)∧ns.length=l'.length∧∀(i:Nat) n,ns[i]?=some n→l'[i]?=some (UInt8.ofNat n.toNat):=by
      rcases ih with rfl|h
      ·refine ⟨_,rfl,by simp,fun i n hi=>?_⟩;simp only [List.getElem?_map,aR] at hi;obtain ⟨b,hb,rfl⟩:=hi;simp [hb]
      ·exact h
     obtain ⟨ns,rfl,h2,h3⟩:=ih';refine ⟨n::ns,rfl,by simp [h2],fun i m hi=>?_⟩
     cases i with
     | zero=>simp at hi;subst hi;rfl
     | succ i=>simpa using h3 i m (by simpa using hi)
    ·cases hv
theorem wL:∀(ns:List Int) (r:ByteArray),(ns.foldl (fun r n=>r.push (UInt8.ofNat n.toNat)) r)=⟨r.data++(ns.map fun n=>UInt8.ofNat n.toNat).toArray⟩
 | [],r=>by simp
 | n::ns,r=>by
  simp only [List.foldl_cons];rw [wL ns];simp [ByteArray.push]
theorem qR {cs:List V} {s:List UInt8} {C:List Value} (h:tW cs=some s) (hc:cE ρ μ cs=some C) :
  ∃ns:List Int,C=ns.map (Value.int .u8)∧(ns.map fun n=>UInt8.ofNat n.toNat)=s:=by
 rcases vo h hc with rfl|⟨ns,rfl,h2,h3⟩
 ·refine ⟨_,rfl,?_⟩;apply List.ext_getElem?;intro i;simp only [List.getElem?_map,Option.map_map]
  cases s[i]?<;>simp
 ·refine ⟨ns,rfl,?_⟩;apply List.ext_getElem?;intro i;rw [List.getElem?_map]
  cases hi:ns[i]? with
  | none =>
   have:ns.length≤i:=List.getElem?_eq_none_iff.1 hi;rw [List.getElem?_eq_none (by omega)];rfl
  | some n=>rw [h3 i n hi];rfl
theorem H5 (hE:EnvOk P E) {h h':H} {w:World} (hh:HR E ρ μ h w) {src dst:Nat} {x v:V} {X:Value} (hv:j3 E h src dst x=some (v,h')) (hx:conc ρ μ x=some X) :
  Rs P E ρ μ w (convert src dst X) v h':=by
 unfold j3 at hv
 split at hv
 ·rename_i i j hi hj;have ui:=cR hE hi w;have uj:=cR hE hj w;obtain ⟨_,_,_,_,pi,_⟩:=hE.ty hi;obtain ⟨_,_,_,_,pj,_⟩:=hE.ty hj
  split at hv
  ·rename_i k k' n hd;injection hv with hv;obtain ⟨rfl,rfl⟩:=Prod.mk.inj hv;simp only [conc] at hx;injection hx with hx;subst hx;refine ⟨μ,.int k (k.wrap n),w,Grows.refl _ _,hh,by simp [conc],?_⟩;simp only [convert,Sem.run_bind,ui,uj,Result.andThen_ok,hd]
   cases i.desc<;>rfl
  ·rename_i s hd1 hd2;injection hv with hv;obtain ⟨rfl,rfl⟩:=Prod.mk.inj hv;simp only [conc] at hx;injection hx with hx;subst hx;refine ⟨μ,.string ⟨s.toArray⟩,w,Grows.refl _ _,hh,by simp [conc],?_⟩;simp [convert,ui,uj,hd1,hd2]
  ·rename_i e s hd1 hd2
   split at hv
   ·rename_i ei hei;obtain ⟨_,_,_,_,pe,_⟩:=hE.ty hei
    split at hv
    ·rename_i hde;obtain ⟨hs1,hv⟩:=cI hv;have hs1:=aS hs1;injection hv with hv;obtain ⟨rfl,rfl⟩:=Prod.mk.inj hv;simp only [conc] at hx;injection hx with hx;subst hx;have run:=run_bytes_of_string (P:=P) w src dst e ⟨s.toArray⟩ (by rw [pi,hd1]) (by rw [pj,hd2]) (by rw [pe,hde]);rw [jE] at run;have hge:=grownCap_ge w s.length 0 e;generalize grownCap w s.length 0 e=cp at run hge
     have hsz:(bytesRow ⟨s.toArray⟩ cp).size=cp:=by
      simp only [bytesRow,Array.size_append,Array.size_map,Array.size_replicate,jE];simp;omega
     refine ⟨μ.put h.bX (w.heap.size,cp),_,w.drew.alloc (.cells (bytesRow ⟨s.toArray⟩ cp) e ((bytesRow ⟨s.toArray⟩ cp).size,(bytesRow ⟨s.toArray⟩ cp).size+1)),Grows.alloc hh cp rfl rfl rfl rfl,HR.alloc hh (B:=.cells (T.putL .lf 0 (s.map fun c=>.int .u8 c.toNat)) (s.map fun c=>V.int .u8 c.toNat).length [.nilp] e 2) ?_ rfl,?_,run⟩
     ·refine .cells (fun j u hu=>?_) (by rw [hsz];simpa using hge) (fun q=>by omega) (fun _=>⟨ei,hei,by rw [hsz,hs1];simp⟩) (fun q _=>absurd rfl q) (fun _=>.inr rfl);rw [pU,List.getElem?_map,aR] at hu;obtain ⟨c,hc,rfl⟩:=hu;refine ⟨.int .u8 c.toNat,by simp [conc],?_⟩;have hj:=(List.getElem?_eq_some_iff.1 hc).1;simp only [bytesRow];rw [Array.getElem?_append_left (by simpa using hj)];simp [hc]
     ·simp [conc,Mu.put_same,gg,hge]
    ·cases hv
   ·cases hv
  ·rename_i e hd1 hd2
   split at hv
   ·rename_i ei hei;obtain ⟨_,_,_,_,pe,_⟩:=hE.ty hei
    split at hv
    ·rename_i hde;injection hv with hv;obtain ⟨rfl,rfl⟩:=Prod.mk.inj hv;simp only [conc] at hx;injection hx with hx;subst hx;refine ⟨μ,.string ⟨[].toArray⟩,w,Grows.refl _ _,hh,by simp [conc],?_⟩;rw [run_convert_bytes_string w src dst e none 0 0 (by rw [pi,hd1]) (by rw [pe,hde]) (by rw [pj,hd2])];simp [Conv.bytesToString]
     rfl
    ·cases hv
   ·cases hv
  ·rename_i e b o n c hd1 hd2
   split at hv
   ·rename_i ei hei;obtain ⟨_,_,_,_,pe,_⟩:=hE.ty hei
    split at hv
    ·rename_i hde
     split at hv
     ·injection hv with hv;obtain ⟨rfl,rfl⟩:=Prod.mk.inj hv;obtain ⟨y,hy,_,rfl⟩:=dI hx;refine ⟨μ,.string ⟨[].toArray⟩,w,Grows.refl _ _,hh,by simp [conc],?_⟩;rw [run_convert_bytes_string w src dst e _ 0 _ (by rw [pi,hd1]) (by rw [pe,hde]) (by rw [pj,hd2])];exact run_bytesToString w _ 0 _ [] (by simp only [loadCells,loadCellsFrom,List.map_nil];rfl)
     ·rename_i hn0
      split at hv
      ·rename_i t m d be kind hb
       split at hv
       ·rename_i cs hcs;obtain ⟨s,hs,e2⟩:=aR.1 hv;obtain ⟨rfl,rfl⟩:=Prod.mk.inj e2;obtain ⟨y,m',hy,rfl⟩:=kq hx (Nat.pos_of_ne_zero hn0);obtain ⟨L,l1,l2,l3⟩:=jK hh hb hy hcs;obtain ⟨ns,rfl,n2⟩:=qR hs l1;refine ⟨μ,.string ⟨s.toArray⟩,w,Grows.refl _ _,hh,by simp [conc],?_⟩;rw [run_convert_bytes_string w src dst e _ n _ (by rw [pi,hd1]) (by rw [pe,hde]) (by rw [pj,hd2])];rw [run_bytesToString w _ n _ ns (mt l3 l2),wL,n2]
        simp [ByteArray.empty,ByteArray.emptyWithCapacity]
        rfl
       ·cases hv
      ·cases hv
    ·cases hv
   ·cases hv
  ·rename_i e0 e b o n c hd1 hd2;obtain ⟨hsd,hv⟩:=cI hv;have hsd:=aS hsd
   split at hv
   ·rename_i ei hei;have ue:=cR hE hei w
    split at hv
    ·rename_i hde
     split at hv
     ·rename_i t m d el k hb;obtain ⟨hk,hv⟩:=cI hv;injection hv with hv;obtain ⟨rfl,rfl⟩:=Prod.mk.inj hv
      have hk':k=0∨k=3:=by
       simp only [bS] at hk
       rcases hk with q|q
       ·exact .inl (aS q)
       ·exact .inr (aS q)
      obtain ⟨y,hy,hle,hX⟩:=dI hx;obtain ⟨y',ob,e1,e2,e3⟩:=hh.blk b _ hb;rw [hy] at e1;injection e1 with e1;subst e1
      cases e3 with
      | @cells _ _ _ _ _ _ arr fz hc hn h0 ho hf hf2 =>
       have harr:=h0 hk';have hshape:w.shape? y.1=some (el,arr.size):=by simp [World.shape?,e2]
       have hfz2:fz=(0,0)∨fz.1=arr.size:=by
        rcases hk' with q|q
        ·exact .inl (hf (by omega) (by omega))
        ·exact hf2 (.inr q)
       let fz':Nat×Nat:=if fz.1==fz.2 then (arr.size,arr.size+1) else (min fz.1 arr.size,max fz.2 (arr.size+1))
       have hfz':fz'.1=arr.size:=by
        show (if fz.1==fz.2 then (arr.size,arr.size+1) else (min fz.1 arr.size,max fz.2 (arr.size+1))).1=_
        rcases hfz2 with q|q
        ·rw [q];rfl
        ·split
         ·rfl
         ·rw [q];exact Nat.min_self _
       have hw:w.freeze ⟨y.1,arr.size,none⟩ 1=World.at_ w y.1 (.cells arr el fz'):=by
        obtain ⟨lo,hi⟩:=fz;simp only [World.freeze,World.at_,Nat.one_ne_zero,if_false]
        congr 1
        apply Array.ext_getElem?;intro g;rw [Array.getElem?_modify,Array.getElem?_setIfInBounds]
        by_cases hg:y.1=g
        ·subst hg;rw [if_pos rfl,if_pos rfl,e2,if_pos (gf e2)]
         rfl
        ·rw [if_neg hg,if_neg hg]
       refine ⟨μ,X,World.at_ w y.1 (.cells arr el fz'),Grows.change hy io (fun g hg=>gj hg) rfl rfl rfl,
        HR.change hh hb hy (.cells hc hn (fun _=>harr) (fun q=>by omega) (fun _ q=>absurd rfl q) (fun _=>.inr hfz')) io (fun g hg=>gj hg) (mc (gf e2)),hx,?_⟩
       rw [hX];have hbeq:(src==dst)=true:=by rw [hsd];simp
       simp only [convert,Sem.run_bind,ui,uj,Result.andThen_ok,hd1,hd2,hbeq,ue,hde];simp [markStringish,hshape,hw]
     ·cases hv
    ·cases hv
   ·cases hv
  ·rename_i e ad n c hd1 hd2
   split at hv
   ·rename_i ei hei;obtain ⟨_,_,_,_,pe,_⟩:=hE.ty hei
    split at hv
    ·rename_i hde
     split at hv
     ·rename_i cs hcs;obtain ⟨s,hs,e2⟩:=aR.1 hv;obtain ⟨rfl,rfl⟩:=Prod.mk.inj e2;obtain ⟨_,rfl⟩:=iO hx;obtain ⟨L,l1,l2,l3⟩:=uO (P:=P) hh hcs;obtain ⟨ns,rfl,n2⟩:=qR hs l1;refine ⟨μ,.string ⟨s.toArray⟩,w,Grows.refl _ _,hh,by simp [conc],?_⟩;rw [run_convert_bytes_string w src dst e _ n _ (by rw [pi,hd1]) (by rw [pe,hde]) (by rw [pj,hd2])];rw [run_bytesToString w _ n _ ns l3,wL,n2];simp [ByteArray.empty,ByteArray.emptyWithCapacity]
      rfl
     ·cases hv
    ·cases hv
   ·cases hv
  ·cases hv
 ·cases hv
theorem H4 (hE:EnvOk P E) {h:H} {w:World} (hh:HR E ρ μ h w) {t ty:Nat} {tys:Array TypeId} {x v:V} {X:Value} (ht:tys[0]?=some t) (hv:lenB E h t x=some v) (hx:conc ρ μ x=some X) :
  ∃Y,conc ρ μ v=some Y∧(Builtin.len_ tys ty #[X]).run P w=.ok Y w:=by
 unfold lenB at hv
 split at hv
 ·cases hv
 ·rename_i i hi;have ui:=cR hE hi w
  split at hv
  ·rename_i s hd;injection hv with hv;subst hv;simp only [conc] at hx;injection hx with hx;subst hx;exact ⟨.int .i64 s.length,by simp only [conc],by simp [Builtin.len_,ht,ui,hd,goInt,jE]⟩
  ·rename_i n e hd;injection hv with hv;subst hv;refine ⟨.int .i64 n,by simp [conc],?_⟩;simp [Builtin.len_,ht,ui,hd,goInt]
  ·rename_i a hd
   split at hv
   ·rename_i j hj;have uj:=cR hE hj w
    split at hv
    ·rename_i n e hdj;injection hv with hv;subst hv;refine ⟨.int .i64 n,by simp [conc],?_⟩;simp [Builtin.len_,ht,ui,hd,uj,hdj,goInt]
    ·cases hv
   ·cases hv
  ·rename_i e b o n c hd;injection hv with hv;subst hv;obtain ⟨y,hy,_,rfl⟩:=dI hx;exact ⟨.int .i64 n,by simp only [conc],by simp [Builtin.len_,ht,ui,hd,goInt]⟩
  ·rename_i e ad n c hd;injection hv with hv;subst hv;obtain ⟨_,rfl⟩:=iO hx;exact ⟨.int .i64 n,by simp only [conc],by simp [Builtin.len_,ht,ui,hd,goInt]⟩
  ·rename_i e hd;injection hv with hv;subst hv;simp only [conc] at hx;injection hx with hx;subst hx;exact ⟨.int .i64 0,by simp only [conc],by simp [Builtin.len_,ht,ui,hd,goInt]⟩
  ·rename_i k e hd;injection hv with hv;subst hv;simp only [conc] at hx;injection hx with hx;subst hx;exact ⟨.int .i64 0,by simp only [conc],by simp [Builtin.len_,ht,ui,hd,goInt]⟩
  ·rename_i k e b hd
   split at hv
   ·rename_i es clock hb;injection hv with hv;subst hv;simp only [conc] at hx;obtain ⟨y,hy,rfl⟩:=aR.1 hx;obtain ⟨y',ob,e1,e2,e3⟩:=hh.blk b _ hb;rw [hy] at e1;injection e1 with e1;subst e1
    cases e3 with
    | @map _ _ _ arr he hc =>
     refine ⟨.int .i64 es.length,by simp only [conc],?_⟩;simp [Builtin.len_,ht,ui,hd,goInt,getObj,Sem.run,e2,he]
   ·cases hv
  ·cases hv
end
section
variable {P : Program} {E : Env} {ρ : Rho} {μ : Mu}
theorem zC (a b:List UInt8):((⟨a.toArray⟩:ByteArray)==⟨b.toArray⟩)=(a==b):=by
 show (a.toArray==b.toArray)=_;simp
theorem C8 {h:H} {b o b' o':Nat} (he:wM h b o b' o'=some true):b=b'∧o=o':=by
 unfold wM at he
 cases hb:Nat.beq b b' with
 | true =>
  simp only [hb,cond_true] at he;injection he with he;exact ⟨aS hb,aS he⟩
 | false =>
  simp only [hb,cond_false] at he
  split at he
  ·rename_i k _ _ _ _ k' _ _
   cases hk:(Nat.ble 2 k||Nat.ble 2 k')<;>simp only [hk,cond_true,cond_false] at he<;>cases he
  ·cases he
theorem nl {kt:Nat} {w:World} {X Y:Value} {r:Bool} (h:∀d,(Op.equalIn (d+2) kt X Y).run P w=.ok r w):(Op.equal kt X Y).run P w=.ok r w:=h 9998
theorem rG {X:Value} (h:∀d,Instr.sameBits (d+2) X X=true):Instr.sameBits 10000 X X=true:=h 9998
theorem BZ (hE:EnvOk P E) {h:H} {w:World} (hh:HR E ρ μ h w) {kt:Nat} {ki:TI} (hk:E.tys.get kt=some ki) {ms:Array (String×TypeId)} (hd:ki.desc=.interface ms) {t t' b o b' o':Nat} {y y':Nat×Nat} (q1:μ b=some y) (q2:μ b'=some y') {r:Bool}
  (he:(bif Nat.beq t t' then (match E.tys.get t with
   | some i=>(match i.desc with
    | .pointer e=>(match E.tys.get e with
     | some j=>bif Nat.beq j.size 0 || !i.cmp then none else wM h b o b' o'
     | none=>none)
    | _=>none)
   | none=>none) else some false)=some r) :
  (Op.equal kt (.iface t (.pointer (some ⟨y.1,o,none⟩))) (.iface t' (.pointer (some ⟨y'.1,o',none⟩)))).run P w=.ok r w∧(r=true→t'=t∧o'=o∧y'=y):=by
 have uk:=cR hE hk w
 cases ht:Nat.beq t t' with
 | false =>
  simp only [ht,cond_false] at he;injection he with he;subst he;have hne:¬t=t':=by rintro rfl;simp at ht
  exact ⟨nl fun d=>by simp [Op.equalIn,uk,hd,hne],fun q=>by cases q⟩
 | true =>
  simp only [ht,cond_true] at he;have:=aS ht;subst this
  split at he
  ·rename_i i hi
   split at he
   ·rename_i e hde
    split at he
    ·rename_i j hj
     cases hz:(Nat.beq j.size 0 || !i.cmp) with
     | true=>simp [hz] at he
     | false =>
      simp only [hz,cond_false] at he;simp only [Bool.or_eq_false_iff,Bool.not_eq_false'] at hz;have hz':¬j.size=0:=by intro e;rw [e] at hz;simp at hz
      obtain ⟨inf,_,_,p1,_,_,_,_,_,_,_,p2,_⟩:=hE.ty hi;have hcmp:inf.comparable=true:=by rw [p2];exact hz.2
      refine ⟨nl fun d=>by simp [Op.equalIn,uk,hd,typeInfo,p1,hcmp,cR hE hi w,hde,gO hE hj w,hz',yS hh he q1 q2],fun q=>?_⟩;subst q;obtain ⟨rfl,rfl⟩:=C8 he;rw [q1] at q2;injection q2 with q2;exact ⟨rfl,rfl,q2.symm⟩
    ·cases he
   ·cases he
  ·cases he
theorem u9 (hE:EnvOk P E) {h:H} {w:World} (hh:HR E ρ μ h w) {kt:Nat} {ki:TI} (hk:E.tys.get kt=some ki) {k k':V} {K K':Value} {r:Bool}
  (he:va E h ki.desc k k'=some r) (hK:conc ρ μ k=some K) (hK':conc ρ μ k'=some K') :
  (Op.equal kt K K').run P w=.ok r w∧(r=true→K'=K∧Instr.sameBits 10000 K K=true)∧(Instr.sameNow ki.desc K K'=some r∨∃ms,ki.desc=.interface ms):=by
 have uk:=cR hE hk w;unfold va at he
 split at he
 ·rename_i ms t b o t' b' o' hd;simp only [conc] at hK hK'
  cases q1:μ b with
  | none=>simp [q1] at hK
  | some y =>
   cases q2:μ b' with
   | none=>simp [q2] at hK'
   | some y' =>
    simp [q1] at hK;simp [q2] at hK';subst hK hK';obtain ⟨r1,r2⟩:=BZ hE hh hk hd q1 q2 he;refine ⟨r1,fun q=>?_,.inr ⟨ms,hd⟩⟩;obtain ⟨rfl,rfl,rfl⟩:=r2 q;exact ⟨rfl,rG fun d=>by simp [Instr.sameBits]⟩
 ·rename_i kk j a j' b hd
  split at he
  ·rename_i hj;injection he with he;subst he hj;simp only [conc] at hK hK';injection hK with hK;injection hK' with hK';subst hK hK'
   refine ⟨nl fun d=>?_,fun q=>?_,.inl ?_⟩
   ·simp only [Op.equalIn,Sem.run_bind,uk,Result.andThen_ok,hd,if_true,Sem.run_pure];rfl
   ·have q:a=b:=by simpa using q
    subst q;exact ⟨rfl,rG fun d=>by simp only [Instr.sameBits,beq_self_eq_true,Bool.and_self]⟩
   ·rw [hd];simp only [Instr.sameNow,if_true];rfl
  ·cases he
 ·rename_i a b hd;injection he with he;subst he;simp only [conc] at hK hK';injection hK with hK;injection hK' with hK';subst hK hK';have hab:=zC a b
  refine ⟨nl fun d=>?_,fun q=>?_,.inl ?_⟩
  ·simp only [Op.equalIn,Sem.run_bind,uk,Result.andThen_ok,hd];simp only [Sem.run_pure,hab]
  ·have q:a=b:=by simpa using q
   subst q;exact ⟨rfl,rG fun d=>by simp only [Instr.sameBits,zC,beq_self_eq_true]⟩
  ·rw [hd];simp only [Instr.sameNow,hab]
 ·rename_i a b hd;injection he with he;subst he;simp only [conc] at hK hK';injection hK with hK;injection hK' with hK';subst hK hK'
  refine ⟨nl fun d=>?_,fun q=>?_,.inl ?_⟩
  ·simp only [Op.equalIn,Sem.run_bind,uk,Result.andThen_ok,hd,Sem.run_pure]
  ·have q:a=b:=by simpa using q
   subst q;exact ⟨rfl,rG fun d=>by simp only [Instr.sameBits,beq_self_eq_true]⟩
  ·rw [hd];simp only [Instr.sameNow]
 ·cases he
def EsR (ρ:Rho) (μ:Mu) (es:List (V×V×Nat)) (l:List MapEntry):Prop :=
 es.length=l.length∧∀(i:Nat) k v born,es[i]?=some (k,v,born)→∃K X,conc ρ μ k=some K∧conc ρ μ v=some X∧l[i]?=some (MapEntry.mk K X born)
theorem EsR.cons {k v:V} {born:Nat} {r:List (V×V×Nat)} {l:List MapEntry} (h:EsR ρ μ ((k,v,born)::r) l):∃K X l',l=⟨K,X,born⟩::l'∧conc ρ μ k=some K∧conc ρ μ v=some X∧EsR ρ μ r l':=by
 obtain ⟨h1,h2⟩:=h
 cases l with
 | nil=>simp at h1
 | cons e l' =>
  obtain ⟨K,X,e1,e2,e3⟩:=h2 0 k v born rfl;simp at e3;subst e3;exact ⟨K,X,l',rfl,e1,e2,by simpa using h1,fun i k v b e=>by simpa using h2 (i+1) k v b (by simpa using e)⟩
def zI (ρ:Rho) (μ:Mu) (K:Value) (l:List MapEntry) (i:Nat) (r:Option (Nat×V×Nat)) (R:Option (Nat×Value)):Prop :=
 match r with
 | none=>R=none
 | some (j,v,born)=>∃X,R=some (j,X)∧conc ρ μ v=some X∧i≤j∧l[j - i]?=some ⟨K,X,born⟩∧Instr.sameBits 10000 K K=true
theorem ve (hE:EnvOk P E) {h:H} {w:World} (hh:HR E ρ μ h w) {kt:Nat} {ki:TI} (hk:E.tys.get kt=some ki) {k:V} {K:Value} (hK:conc ρ μ k=some K) :
  ∀{es:List (V×V×Nat)} {l:List MapEntry} {i:Nat} {r:Option (Nat×V×Nat)},EsR ρ μ es l→gU E h ki.desc k es i=some r →
   ∃R,zI ρ μ K l i r R∧(Instr.findAsking kt K l i).run P w=.ok R w∧(Instr.findNow ki.desc K l i=some R∨((∃ms,ki.desc=.interface ms)∧(l≠[]→Instr.findNow ki.desc K l i=none)))
 | [],l,i,r,hes,hf=>by
  simp [gU] at hf;subst hf;have:l=[]:=List.eq_nil_of_length_eq_zero (by simpa using hes.1.symm);subst this;exact ⟨none,rfl,by simp [Instr.findAsking],.inl (by simp [Instr.findNow])⟩
 | (k',v,born)::es,l,i,r,hes,hf=>by
  obtain ⟨K',X,l',rfl,e1,e2,e3⟩:=hes.cons;simp only [gU] at hf
  split at hf
  ·cases hf
  ·rename_i hq;injection hf with hf;subst hf;obtain ⟨q1,q2,q3⟩:=u9 hE hh hk hq hK e1;obtain ⟨q4,q5⟩:=q2 rfl;subst q4;refine ⟨some (i,X),⟨X,rfl,e2,aI _,by simp,q5⟩,by simp [Instr.findAsking,q1],?_⟩
   rcases q3 with q3|⟨ms,q3⟩
   ·exact .inl (by simp [Instr.findNow,q3])
   ·exact .inr ⟨⟨ms,q3⟩,fun _=>by rw [q3];simp [Instr.findNow,Instr.sameNow]⟩
  ·rename_i hq;obtain ⟨q1,q2,q3⟩:=u9 hE hh hk hq hK e1;obtain ⟨R,r1,r2,r3⟩:=ve hE hh hk hK e3 hf
   refine ⟨R,?_,by simp [Instr.findAsking,q1,r2],?_⟩
   ·unfold zI at r1 ⊢
    split
    ·exact r1
    ·rename_i j u bn;obtain ⟨Y,y1,y2,y3,y4,y5⟩:=r1;refine ⟨Y,y1,y2,by omega,?_,y5⟩;have:j - i=(j - (i+1))+1:=by omega
     rw [this];simpa using y4
   ·rcases q3 with q3|⟨ms,q3⟩
    ·rcases r3 with r3|⟨⟨ms,r3⟩,_⟩
     ·exact .inl (by simp [Instr.findNow,q3,r3])
     ·rw [r3] at q3
      cases K<;>simp [Instr.sameNow] at q3
    ·exact .inr ⟨⟨ms,q3⟩,fun _=>by rw [q3];simp [Instr.findNow,Instr.sameNow]⟩
theorem oV (hE:EnvOk P E) {h:H} {w:World} (hh:HR E ρ μ h w) {kt:Nat} {ki:TI} (hk:E.tys.get kt=some ki) {k:V} {K:Value} (hK:conc ρ μ k=some K)
  {es:List (V×V×Nat)} {l:List MapEntry} {r:Option (Nat×V×Nat)} (hes:EsR ρ μ es l) (hf:gU E h ki.desc k es 0=some r) :
  ∃R,zI ρ μ K l 0 r R∧(Instr.findKey kt K l).run P w=.ok R w:=by
 obtain ⟨R,r1,r2,r3⟩:=ve hE hh hk hK hes hf;refine ⟨R,r1,?_⟩
 rcases r3 with r3|⟨_,r3⟩
 ·simp [Instr.findKey,cR hE hk w,r3]
 ·cases l with
  | nil =>
   simp only [Instr.findAsking,Sem.run_pure] at r2;injection r2 with r2;subst r2;simp [Instr.findKey,cR hE hk w,Instr.findNow]
  | cons e l=>simp [Instr.findKey,cR hE hk w,r3 (by simp),r2]
theorem ra (hE:EnvOk P E) {w:World} {kt:Nat} {ki:TI} (hk:E.tys.get kt=some ki) {k:V} {K:Value} (hK:conc ρ μ k=some K) (ho:qx E ki.desc k=true) (e:Bool) :
  (Instr.checkKey e 10000 kt K).run P w=.ok () w:=by
 have lift:(∀d,(Instr.checkKey e (d+2) kt K).run P w=.ok () w)→(Instr.checkKey e 10000 kt K).run P w=.ok () w:=fun h=>h 9998;have uk:=cR hE hk w;apply lift;intro d;unfold qx at ho
 split at ho
 ·rename_i ms t b o hd
  split at ho
  ·rename_i i hi;simp only [aU] at ho;obtain ⟨ho1,ho2⟩:=ho;obtain ⟨inf,_,_,p1,_,_,_,_,_,_,_,p2,_⟩:=hE.ty hi;have hcmp:inf.comparable=true:=by rw [p2];exact ho1
   simp only [conc] at hK
   cases q1:μ b with
   | none=>simp [q1] at hK
   | some y =>
    simp [q1] at hK;subst hK
    split at ho2
    ·rename_i e' hde;simp [Instr.checkKey,uk,hd,typeInfo,p1,hcmp,cR hE hi w,hde]
    ·cases ho2
  ·cases ho
 ·rename_i hd;simp only [conc] at hK;injection hK with hK;subst hK;simp [Instr.checkKey,uk,hd]
 ·rename_i hd;simp only [conc] at hK;injection hK with hK;subst hK;simp [Instr.checkKey,uk,hd]
 ·rename_i hd;simp only [conc] at hK;injection hK with hK;subst hK;simp [Instr.checkKey,uk,hd]
 ·cases ho
theorem sQ {ty:Nat} {ki ei:TI} (h:qB E ty=some (ki,ei)):∃i kt et,E.tys.get ty=some i∧i.desc=.map kt et∧E.tys.get kt=some ki∧E.tys.get et=some ei:=by
 unfold qB at h
 split at h
 ·rename_i i hi
  split at h
  ·rename_i k e hd
   split at h
   ·rename_i a b ha hb;injection h with h;obtain ⟨rfl,rfl⟩:=Prod.mk.inj h;exact ⟨i,k,e,hi,hd,ha,hb⟩
   ·cases h
  ·cases h
 ·cases h
theorem rp {h:H} {w:World} (hh:HR E ρ μ h w) {b:Nat} {es:List (V×V×Nat)} {clock:Nat} (hb:h.t.get b=some (.map es clock)) {y:Nat×Nat} (hy:μ b=some y) :
  ∃arr,w.heap[y.1]?=some (.map arr clock)∧EsR ρ μ es arr.toList:=by
 obtain ⟨y',ob,e1,e2,e3⟩:=hh.blk b _ hb;rw [hy] at e1;injection e1 with e1;subst e1
 cases e3 with
 | @map _ _ _ arr he hc=>exact ⟨arr,e2,by simpa using he,fun i k v born e=>by simpa using hc i k v born e⟩
end
section
variable {P : Program} {E : Env} {ρ : Rho} {μ : Mu}
theorem Fi {v:V} {X:Value} (hx:conc ρ μ v=some X) (ok b:Bool):conc ρ μ (bif ok then V.tuple [v,.bool b] else v)=some (if ok then .tuple #[X,.bool b] else X):=by
 cases ok
 ·simpa using hx
 ·have h1:conc ρ μ (.bool b)=some (.bool b):=by simp only [conc]
  have h2:cE ρ μ [v,.bool b]=some [X,.bool b]:=eM hx (eM h1 (by simp [cE]));simp [conc,h2]
theorem BT {ty kt et:Nat} {w:World} {M K:Value} {ok:Bool} {l:Array MapEntry} {R:Option (Nat×Value)} {Z:Value} (hu:(underlying ty).run P w=.ok (.map kt et) w)
  (hm:(M=.map none∧l=#[])∨∃r clock,M=.map (some r)∧w.heap[r]?=some (.map l clock))
  (hc:(Instr.checkKey l.isEmpty 10000 kt K).run P w=.ok () w) (hf:(Instr.findKey kt K l.toList).run P w=.ok R w) (hz:(zeroValue et).run P w=.ok Z w) :
  (Instr.lookup ty M K ok).run P w=.ok (match R with
   | some (_,v)=>if ok then .tuple #[v,.bool true] else v
   | none=>if ok then .tuple #[Z,.bool false] else Z) w:=by
 rcases hm with ⟨rfl,rfl⟩|⟨r,clock,rfl,hr⟩
 ·simp only [Instr.lookup,Sem.run_bind,hu,Result.andThen_ok,Sem.run_pure,hc,hf]
  cases R with
  | none=>simp [hz]
  | some r=>simp
 ·have hg:(getObj r).run P w=.ok (.map l clock) w:=by simp [getObj,Sem.run,hr]
  simp only [Instr.lookup,Sem.run_bind,hu,Result.andThen_ok,hg,Sem.run_pure,hc,hf]
  cases R with
  | none=>simp [hz]
  | some r=>simp
theorem DB {h:H} {w:World} (hh:HR E ρ μ h w) {m:V} {M:Value} {es:List (V×V×Nat)} (he:rq h m=some es) (hm:conc ρ μ m=some M) :
  ∃l,EsR ρ μ es l.toList∧((M=.map none∧l=#[])∨∃r clock,M=.map (some r)∧w.heap[r]?=some (.map l clock)):=by
 unfold rq at he
 split at he
 ·injection he with he;subst he;simp only [conc] at hm;injection hm with hm;subst hm;exact ⟨#[],⟨rfl,fun i k v b e=>by simp at e⟩,.inl ⟨rfl,rfl⟩⟩
 ·rename_i b
  split at he
  ·rename_i es' clock hb;injection he with he;subst he;obtain ⟨y,hy,rfl⟩:=jG hm;obtain ⟨arr,a1,a2⟩:=rp hh hb hy;exact ⟨arr,a2,.inr ⟨_,clock,rfl,a1⟩⟩
  ·cases he
 ·cases he
theorem Bb (hE:EnvOk P E) {h:H} {w:World} (hh:HR E ρ μ h w) {ty:Nat} {m k v:V} {ok:Bool} {M K:Value} (hv:gJ E h ty m k ok=some v) (hm:conc ρ μ m=some M) (hk:conc ρ μ k=some K) :
  ∃X,conc ρ μ v=some X∧(Instr.lookup ty M K ok).run P w=.ok X w:=by
 unfold gJ at hv
 split at hv
 ·cases hv
 ·rename_i ki ei hme;obtain ⟨i,kt,et,h1,h2,h3,h4⟩:=sQ hme;have ui:=cR hE h1 w;rw [h2] at ui;obtain ⟨hok,hv⟩:=cI hv;obtain ⟨Z,z1,z2,z3,z4⟩:=qn (P:=P) (ρ:=ρ) (μ:=μ) hE h4
  split at hv
  ·cases hv
  ·rename_i es he;obtain ⟨l,l1,l2⟩:=DB hh he hm;have fin:=fun {R} r2=>BT (P:=P) (ok:=ok) (R:=R) ui l2 (ra hE h3 hk hok _) r2 (z1 w)
   split at hv
   ·cases hv
   ·rename_i j u born hf;injection hv with hv;subst hv;obtain ⟨R,⟨Y,rfl,y1,_,_,_⟩,r2⟩:=oV hE hh h3 hk l1 hf;exact ⟨_,Fi y1 ok true,fin r2⟩
   ·rename_i hf;obtain ⟨R,r1,r2⟩:=oV hE hh h3 hk l1 hf;simp only [zI] at r1;subst r1;simp only [TI.zeroV,bo] at hv;injection hv with hv;subst hv;exact ⟨_,Fi z2 ok false,fin r2⟩
theorem pF {w:World} {r:Nat} {arr:Array MapEntry} {c:Nat} {o':Obj} (h:w.heap[r]?=some (.map arr c)):(setObj r o').run P w=.ok () (World.at_ w r o'):=by
 simp [setObj,Sem.run,h,World.at_]
theorem sP {h:H} {w:World} (hh:HR E ρ μ h w) {b:Nat} {es es':List (V×V×Nat)} {clock clock':Nat} (hb:h.t.get b=some (.map es clock)) {y:Nat×Nat} (hy:μ b=some y) {arr arr':Array MapEntry} (ha:w.heap[y.1]?=some (.map arr clock))
  (hes:EsR ρ μ es' arr'.toList):Grows μ w μ (World.at_ w y.1 (.map arr' clock'))∧HR E ρ μ (h.put b (.map es' clock')) (World.at_ w y.1 (.map arr' clock')):=by
 refine ⟨Grows.change hy io (fun g hg=>gj hg) rfl rfl rfl,HR.change hh hb hy ?_ io (fun g hg=>gj hg) (mc (gf ha))⟩;exact .map (by simpa using hes.1) fun i k v born e=>by simpa using hes.2 i k v born e
theorem EsR.push {es:List (V×V×Nat)} {l:List MapEntry} (h:EsR ρ μ es l) {k v:V} {K X:Value} {born:Nat} (hk:conc ρ μ k=some K) (hx:conc ρ μ v=some X):EsR ρ μ (es++[(k,v,born)]) (l++[⟨K,X,born⟩]):=by
 refine ⟨by simp [h.1],fun i k' v' b e=>?_⟩
 by_cases hi:i<es.length
 ·rw [List.getElem?_append_left hi] at e;rw [List.getElem?_append_left (by rw [←h.1];exact hi)];exact h.2 i k' v' b e
 ·rw [List.getElem?_append_right (by omega)] at e;rw [List.getElem?_append_right (by rw [←h.1];omega),←h.1]
  cases hj:i - es.length with
  | zero=>rw [hj] at e;simp at e;obtain ⟨rfl,rfl,rfl⟩:=e;exact ⟨K,X,hk,hx,rfl⟩
  | succ n=>rw [hj] at e;simp at e
theorem EsR.set {es:List (V×V×Nat)} {l:List MapEntry} (h:EsR ρ μ es l) {k v:V} {K X:Value} {born j:Nat} (hk:conc ρ μ k=some K) (hx:conc ρ μ v=some X):EsR ρ μ (es.set j (k,v,born)) (l.set j ⟨K,X,born⟩):=by
 refine ⟨by simp [h.1],fun i k' v' b e=>?_⟩;rw [List.getElem?_set] at e ⊢
 by_cases hi:j=i
 ·subst hi;rw [if_pos rfl] at e ⊢;rw [←h.1]
  split at e
  ·rename_i hl;rw [if_pos hl];injection e with e;obtain ⟨e1,e⟩:=Prod.mk.inj e;obtain ⟨e2,e3⟩:=Prod.mk.inj e;subst e1 e2 e3;exact ⟨K,X,hk,hx,rfl⟩
  ·cases e
 ·rw [if_neg hi] at e ⊢;exact h.2 i k' v' b e
theorem EsR.erase {es:List (V×V×Nat)} {l:List MapEntry} (h:EsR ρ μ es l) (j:Nat):EsR ρ μ (es.eraseIdx j) (l.eraseIdx j):=by
 refine ⟨by simp [List.length_eraseIdx,h.1],fun i k' v' b e=>?_⟩;rw [List.getElem?_eraseIdx] at e ⊢
 split at e
 ·rename_i hi;rw [if_pos hi];exact h.2 _ _ _ _ e
 ·rename_i hi;rw [if_neg hi];exact h.2 _ _ _ _ e
theorem GR {l:Array MapEntry} {j:Nat} {e e':MapEntry} {f:MapEntry→MapEntry} (hj:l[j]?=some e) (hf:f e=e'):(l.modify j f).toList=l.toList.set j e':=by
 apply List.ext_getElem?;intro i;rw [Array.getElem?_toList,Array.getElem?_modify,List.getElem?_set];have hlt:=gf hj
 by_cases hi:j=i
 ·subst hi;rw [if_pos rfl,if_pos rfl,hj,if_pos (by simpa using hlt)];simp [hf]
 ·rw [if_neg hi,if_neg hi,Array.getElem?_toList]
theorem wu (hE:EnvOk P E) {h h':H} {w:World} (hh:HR E ρ μ h w) {ty:Nat} {m k v:V} {M K X:Value} (hv:iX E h ty m k v=some h') (hm:conc ρ μ m=some M) (hk:conc ρ μ k=some K) (hx:conc ρ μ v=some X) :
  Ru P E ρ μ w (Instr.mapUpdate ty M K X) h':=by
 unfold iX at hv
 split at hv
 ·rename_i ki ei b hme;obtain ⟨i,kt,et,h1,h2,h3,h4⟩:=sQ hme;have ui:=cR hE h1 w;rw [h2] at ui
  split at hv
  ·rename_i es clock hb;obtain ⟨hok,hv⟩:=cI hv;obtain ⟨y,hy,rfl⟩:=jG hm;obtain ⟨arr,a1,a2⟩:=rp hh hb hy;have hc:=ra (w:=w) hE h3 hk hok false
   split at hv
   ·cases hv
   ·rename_i j u born hf;injection hv with hv;subst hv;obtain ⟨R,⟨Y,rfl,y1,_,y3,y4⟩,r2⟩:=oV hE hh h3 hk a2 hf;simp only [Nat.sub_zero,Array.getElem?_toList] at y3;rw [Ga]
    obtain ⟨g1,g2⟩:=sP (clock':=clock) (arr':=arr.modify j fun e=>{e with key:=K,val:=X}) hh hb hy a1 (by
     rw [GR y3 rfl];exact a2.set hk hx)
    refine ⟨μ,_,g1,g2,?_⟩;unfold Instr.mapUpdate;rw [Sem.run_bind,ui,Result.andThen_ok];simp only;have hg:(getObj y.1).run P w=.ok (.map arr clock) w:=by simp [getObj,Sem.run,a1]
    rw [Sem.run_bind,hg,Result.andThen_ok];simp only;rw [Sem.run_bind,hc,Result.andThen_ok,Sem.run_bind,r2,Result.andThen_ok];simp only [y3,bo,Option.getD_some];have hkeep:(Instr.keyThatStays K K).run P w=.ok K w:=by unfold Instr.keyThatStays;rw [if_pos y4];rfl
    rw [Sem.run_bind,hkeep,Result.andThen_ok];exact pF a1
   ·rename_i hf;injection hv with hv;subst hv;obtain ⟨R,r1,r2⟩:=oV hE hh h3 hk a2 hf;simp only [zI] at r1;subst r1
    obtain ⟨g1,g2⟩:=sP (clock':=clock+1) (arr':=arr.push {key:=K,val:=X,born:=clock}) hh hb hy a1 (by
     rw [Array.toList_push];exact a2.push hk hx)
    refine ⟨μ,_,g1,g2,?_⟩;unfold Instr.mapUpdate;rw [Sem.run_bind,ui,Result.andThen_ok];simp only;have hg:(getObj y.1).run P w=.ok (.map arr clock) w:=by simp [getObj,Sem.run,a1]
    rw [Sem.run_bind,hg,Result.andThen_ok];simp only;rw [Sem.run_bind,hc,Result.andThen_ok,Sem.run_bind,r2,Result.andThen_ok];exact pF a1
  ·cases hv
 ·cases hv
theorem Be (hE:EnvOk P E) {h h':H} {w:World} (hh:HR E ρ μ h w) {ty t:Nat} {tys:Array TypeId} {m k:V} {M K:Value} (ht:tys[0]?=some t) (hv:rC E h t m k=some h') (hm:conc ρ μ m=some M) (hk:conc ρ μ k=some K) :
  Rs P E ρ μ w (Builtin.delete_ tys ty #[M,K]) un h':=by
 unfold rC at hv
 split at hv
 ·cases hv
 ·rename_i ki ei hme;obtain ⟨i,kt,et,h1,h2,h3,h4⟩:=sQ hme;have ui:=cR hE h1 w;rw [h2] at ui;obtain ⟨hok,hv⟩:=cI hv;have hun:conc ρ μ un=some (.tuple #[]):=by simp [un,conc,cE]
  split at hv
  ·injection hv with hv;subst hv;simp only [conc] at hm;injection hm with hm;subst hm;refine ⟨μ,.tuple #[],w,Grows.refl _ _,hh,hun,?_⟩;have hc:=ra (w:=w) hE h3 hk hok true;simp [Builtin.delete_,ht,ui,hc]
  ·rename_i b
   split at hv
   ·rename_i es clock hb;obtain ⟨y,hy,rfl⟩:=jG hm;obtain ⟨arr,a1,a2⟩:=rp hh hb hy;have hc:=ra (w:=w) hE h3 hk hok arr.isEmpty;have hg:(getObj y.1).run P w=.ok (.map arr clock) w:=by simp [getObj,Sem.run,a1]
    split at hv
    ·cases hv
    ·rename_i j u born hf;injection hv with hv;subst hv;obtain ⟨R,⟨Y,rfl,y1,_,y3,y4⟩,r2⟩:=oV hE hh h3 hk a2 hf;rw [Hl]
     obtain ⟨g1,g2⟩:=sP (clock':=clock) (arr':=arr.eraseIdxIfInBounds j) hh hb hy a1 (by
      simpa using a2.erase j)
     refine ⟨μ,.tuple #[],_,g1,g2,hun,?_⟩;simp [Builtin.delete_,ht,ui,hg,hc,r2,pF a1]
    ·rename_i hf;injection hv with hv;subst hv;obtain ⟨R,r1,r2⟩:=oV hE hh h3 hk a2 hf;simp only [zI] at r1;subst r1;refine ⟨μ,.tuple #[],w,Grows.refl _ _,hh,hun,?_⟩;have hs:(setObj y.1 (.map arr clock)).run P w=.ok () w:=by rw [pF a1,Fv a1]
     simp [Builtin.delete_,ht,ui,hg,hc,r2,hs]
   ·cases hv
  ·cases hv
end
section
variable {P : Program} {E : Env} {ρ : Rho} {μ : Mu}
theorem Cs {x y:V} {X Y:Value} (hx:conc ρ μ x=some X) (hy:conc ρ μ y=some Y):conc ρ μ (.tuple [x,y])=some (.tuple #[X,Y]):=by
 have h2:cE ρ μ [x,y]=some [X,Y]:=eM hx (eM hy (by simp [cE]));simp [conc,h2]
theorem vh {x y z:V} {X Y Z:Value} (hx:conc ρ μ x=some X) (hy:conc ρ μ y=some Y) (hz:conc ρ μ z=some Z):conc ρ μ (.tuple [x,y,z])=some (.tuple #[X,Y,Z]):=by
 have h2:cE ρ μ [x,y,z]=some [X,Y,Z]:=eM hx (eM hy (eM hz (by simp [cE])));simp [conc,h2]
theorem uF:conc ρ μ (.tuple [.bool false])=some (.tuple #[.bool false]):=by simp [conc,cE]
theorem CV (hE:EnvOk P E) {h h':H} {w:World} (hh:HR E ρ μ h w) {ty:Nat} {x v:V} {X:Value} (hv:ug E h ty x=some (v,h')) (hx:conc ρ μ x=some X) :
  Rs P E ρ μ w (Instr.range ty X) v h':=by
 unfold ug at hv
 split at hv
 ·cases hv
 ·rename_i i hi;have ui:=cR hE hi w
  have new:∀(it:B) (ob:Obj),(∀μ',Le μ μ'→BR E ρ μ' it (w.heap.size,0) ob)→(Instr.range ty X).run P w=.ok (.pointer (some ⟨w.heap.size,0,none⟩)) {w with heap:=w.heap.push ob} →
    Rs P E ρ μ w (Instr.range ty X) (.ptr (h.new it).1 0) (h.new it).2:=by
   intro it ob hb hr;refine ⟨μ.put h.bX (w.heap.size,0),_,{w with heap:=w.heap.push ob},Grows.alloc hh 0 rfl rfl rfl rfl,HR.alloc hh (hb _ (Mu.le_put _ (hh.fresh _ (aI _)))) rfl,?_,hr⟩;simp [H.new,conc,Mu.put_same]
  simp only at hv
  split at hv
  ·cases hv
  ·rename_i it hit;injection hv with hv;obtain ⟨rfl,rfl⟩:=Prod.mk.inj hv
   split at hit
   ·rename_i s hd;injection hit with hit;subst hit;simp only [conc] at hx;injection hx with hx;subst hx;exact new _ _ (fun _ _=>.strIter) (by simp [Instr.range,ui,hd,newObj,Sem.run])
   ·rename_i k e hd;injection hit with hit;subst hit;simp only [conc] at hx;injection hx with hx;subst hx;exact new _ _ (fun _ _=>BR.mapIter (m':=none) rfl) (by simp [Instr.range,ui,hd,newObj,Sem.run])
   ·rename_i k e b hd
    split at hit
    ·rename_i es clock hb;injection hit with hit;subst hit;obtain ⟨y,hy,rfl⟩:=jG hx;obtain ⟨arr,a1,a2⟩:=rp hh hb hy;exact new _ _ (fun μ' hle=>BR.mapIter (m':=some y.1) ⟨y,hle _ _ hy,rfl⟩) (by simp [Instr.range,ui,hd,newObj,Sem.run,getObj,a1])
    ·cases hit
   ·cases hit
theorem zA {b:Nat} {X:Value} (h:conc ρ μ (.ptr b 0)=some X):∃y,μ b=some y∧X=.pointer (some ⟨y.1,0,none⟩):=by
 simp only [conc] at h;obtain ⟨y,hy,rfl⟩:=aR.1 h;exact ⟨y,hy,rfl⟩
theorem EsR.born {es:List (V×V×Nat)} {l:List MapEntry} (h:EsR ρ μ es l):es.map (·.2.2)=l.map (·.born):=by
 apply List.ext_getElem?;intro i;rw [List.getElem?_map,List.getElem?_map]
 cases he:es[i]? with
 | none =>
  have:=List.getElem?_eq_none_iff.1 he;rw [List.getElem?_eq_none (by rw [←h.1];exact this)]
  rfl
 | some e =>
  obtain ⟨k,v,b⟩:=e;obtain ⟨K,X,_,_,e3⟩:=h.2 i k v b he;rw [e3];rfl
theorem EsR.filter {f:Nat→Bool}:∀{es:List (V×V×Nat)} {l:List MapEntry},EsR ρ μ es l→EsR ρ μ (es.filter fun e=>f e.2.2) (l.filter fun e=>f e.born)
 | [],l,h=>by
  have:l=[]:=List.eq_nil_of_length_eq_zero (by simpa using h.1.symm);subst this;exact ⟨rfl,fun i k v b e=>by simp at e⟩
 | (k,v,b)::es,l,h=>by
  obtain ⟨K,X,l',rfl,e1,e2,e3⟩:=h.cons;have ih:=EsR.filter (f:=f) e3;simp only [List.filter_cons]
  cases hf:f b with
  | false=>simpa using ih
  | true =>
   simp only [if_true];refine ⟨by simp [ih.1],fun i k' v' b' e=>?_⟩
   cases i with
   | zero=>simp at e;obtain ⟨rfl,rfl,rfl⟩:=e;exact ⟨K,X,e1,e2,rfl⟩
   | succ i=>simpa using ih.2 i k' v' b' (by simpa using e)
theorem EsR.append {es es':List (V×V×Nat)} {l l':List MapEntry} (h:EsR ρ μ es l) (h':EsR ρ μ es' l'):EsR ρ μ (es++es') (l++l'):=by
 refine ⟨by simp [h.1,h'.1],fun i k v b e=>?_⟩
 by_cases hi:i<es.length
 ·rw [List.getElem?_append_left hi] at e;rw [List.getElem?_append_left (by rw [←h.1];exact hi)];exact h.2 i k v b e
 ·rw [List.getElem?_append_right (by omega)] at e;rw [List.getElem?_append_right (by rw [←h.1];omega),←h.1];exact h'.2 _ k v b e
theorem qy {h:H} {b m since:Nat} {seen:List Nat} {es:List (V×V×Nat)} {clock:Nat}:∀{cs:List (Option (V×V×Nat))} {j:Nat} {c:Option (V×V×Nat)},cs[j]?=some c →
  (match c with
   | none=>(V.tuple [.bool false],h)
   | some (k,v,born)=>(.tuple [.bool true,k,v],h.put b (.mapIter (some m) since (seen++[born]) clock)))∈jJ h b m since seen es clock cs
 | [],j,c,hc=>by simp at hc
 | x::r,j,c,hc=>by
  cases j with
  | zero =>
   simp at hc;subst hc
   cases x with
   | none=>simp [jJ]
   | some e=>obtain ⟨k,v,born⟩:=e;simp [jJ]
  | succ j =>
   have:=qy (h:=h) (b:=b) (m:=m) (since:=since) (seen:=seen) (es:=es) (clock:=clock) (cs:=r) (j:=j) (c:=c) (by simpa using hc)
   cases x with
   | none=>simp only [jJ];exact aM _ this
   | some e=>obtain ⟨k,v,born⟩:=e;simp only [jJ];exact aM _ this
theorem cands {eo en:List (V×V×Nat)} {lo ln:List MapEntry} (ho:EsR ρ μ eo lo) (hn:EsR ρ μ en ln) {C:List (Option MapEntry)} (hC:C=(if lo.isEmpty then [none] else [])++(lo++ln).map some) {A:List (Option (V×V×Nat))}
  (hA:A=(bif eo.isEmpty then [none] else [])++(eo++en).map some):0<C.length∧∀j,j<C.length→(C[j]?=some none∧A[j]?=some none) ∨
   ∃K X k v born,C[j]?=some (some (MapEntry.mk K X born))∧A[j]?=some (some (k,v,born))∧conc ρ μ k=some K∧conc ρ μ v=some X:=by
 have hon:=ho.append hn
 have main:∀j,j<(lo++ln).length→∃K X k v born,((lo++ln).map some)[j]?=some (some (MapEntry.mk K X born))∧((eo++en).map some)[j]?=some (some (k,v,born))∧conc ρ μ k=some K∧conc ρ μ v=some X:=by
  intro j hj;have hj':j<(eo++en).length:=by rw [hon.1];exact hj
  cases he:(eo++en)[j]? with
  | none=>rw [List.getElem?_eq_getElem hj'] at he;cases he
  | some e =>
   obtain ⟨k,v,born⟩:=e;obtain ⟨K,X,h1,h2,h3⟩:=hon.2 j k v born he;exact ⟨K,X,k,v,born,by rw [List.getElem?_map,h3];rfl,by rw [List.getElem?_map,he];rfl,h1,h2⟩
 have hemp:eo.isEmpty=lo.isEmpty:=by
  have:=ho.1
  cases eo<;>cases lo<;>simp_all
 cases hl:lo.isEmpty with
 | true =>
  rw [hemp,hl] at hA;rw [hl] at hC;simp only [if_true] at hC;simp only [cond_true] at hA;subst hA hC;refine ⟨by simp,fun j hj=>?_⟩
  cases j with
  | zero=>exact .inl ⟨rfl,rfl⟩
  | succ j=>exact .inr (by simpa using main j (by simpa using hj))
 | false =>
  rw [hemp,hl] at hA;rw [hl] at hC;simp only [Bool.false_eq_true,if_false,List.nil_append] at hC;simp only [cond_false,List.nil_append] at hA;subst hA hC;refine ⟨?_,fun j hj=>.inr (main j (by simpa using hj))⟩
  cases lo with
  | nil=>cases hl
  | cons=>simp
theorem DP (a b:Nat):Nat.blt a b=decide (a<b):=by
 rw [Bool.eq_iff_iff];simp
theorem xZ (a b:Nat):Nat.ble a b=decide (a≤b):=by
 rw [Bool.eq_iff_iff];simp
theorem CX (q:Question) (w:World):∃j w1,(w1=w∨w1=w.drew)∧(choose q).run P w=.ok j w1∧∀n,q=.mapNext n→0<n→j<n:=by
 cases hf:q.forced with
 | true=>exact ⟨0,w,.inl rfl,by simp [choose,Sem.run,hf],fun n _ h=>h⟩
 | false => 
  refine ⟨_,w.drew,.inr rfl,by simp only [choose,Sem.run,hf];rfl,fun n hq hn=>?_⟩;subst hq;exact Nat.mod_lt _ hn
theorem uH {h:H} {w:World} (hh:HR E ρ μ h w) {b:Nat} {B:B} (hb:h.t.get b=some B) {y:Nat×Nat} (hy:μ b=some y):∃o,w.heap[y.1]?=some o∧BR E ρ μ B y o:=by
 obtain ⟨y',ob,e1,e2,e3⟩:=hh.blk b _ hb;rw [hy] at e1;injection e1 with e1;subst e1;exact ⟨ob,e2,e3⟩
theorem Gh {h:H} {w:World} (hh:HR E ρ μ h w) {it:V} {isStr:Bool} {ty:Nat} {X:Value} {outs:List (V×H)} (hv:zd h it isStr=some outs) (hx:conc ρ μ it=some X) :
  ∃v h',(v,h')∈outs∧Rs P E ρ μ w (Instr.next X isStr ty) v h':=by
 unfold zd at hv
 split at hv
 ·rename_i b;obtain ⟨y,hy,rfl⟩:=zA hx
  split at hv
  ·rename_i s pos hb;obtain ⟨o,o1,o2⟩:=uH hh hb hy
   cases o2
   cases hlt:Nat.blt pos s.length with
   | true =>
    have hlt':pos<s.length:=by simpa using hlt
    simp only [hlt,cond_true] at hv;injection hv with hv;subst hv
    refine ⟨_,_,aN.2 rfl,μ,.tuple #[.bool true,.int .i64 pos,.int .i32 (Utf8.decode ⟨s.toArray⟩ pos).1],World.at_ w y.1 (.stringIter ⟨s.toArray⟩ (pos+(Utf8.decode ⟨s.toArray⟩ pos).2)),Grows.change hy io (fun g hg=>gj hg) rfl rfl rfl,HR.change hh hb hy .strIter io (fun g hg=>gj hg) (mc (gf o1)),?_,?_⟩
    ·exact vh (by simp only [conc]) (by simp only [conc]) (by simp only [conc])
    ·simp only [Instr.next,getObj,setObj,Sem.run_bind,Sem.run,o1,Result.andThen,jE,hlt',if_true];simp [goInt,World.at_]
   | false =>
    have hlt':¬pos<s.length:=by intro q;rw [show Nat.blt pos s.length=true by simpa using q] at hlt;cases hlt
    simp only [hlt,cond_false] at hv;injection hv with hv;subst hv;refine ⟨_,_,aN.2 rfl,μ,_,w,Grows.refl _ _,hh,uF,?_⟩;simp [Instr.next,getObj,Sem.run,o1,jE,hlt']
  ·rename_i hb;obtain ⟨o,o1,o2⟩:=uH hh hb hy
   cases o2 with
   | mapIter hm =>
    simp only at hm;subst hm;injection hv with hv;subst hv;refine ⟨_,_,aN.2 rfl,μ,_,w,Grows.refl _ _,hh,uF,?_⟩;simp [Instr.next,getObj,Sem.run,o1]
  ·rename_i m since seen last hb;obtain ⟨o,o1,o2⟩:=uH hh hb hy
   cases o2 with
   | mapIter hm =>
    simp only at hm;obtain ⟨z,hz,rfl⟩:=hm
    split at hv
    ·rename_i es clock hbm;obtain ⟨arr,a1,a2⟩:=rp hh hbm hz;obtain ⟨hg,hv⟩:=qT hv;injection hv with hv;have f1:=EsR.filter (f:=fun b => !seen.contains b) a2;have fo:=EsR.filter (f:=fun b=>Nat.blt b since) f1;have fn:=EsR.filter (f:=fun b=>Nat.ble since b) f1;obtain ⟨c1,c2⟩:=cands fo fn rfl rfl;generalize hC:(if (List.filter (fun e=>Nat.blt e.born since) (arr.toList.filter fun e => !seen.contains e.born)).isEmpty then [none] else [])++((List.filter (fun e=>Nat.blt e.born since) (arr.toList.filter fun e => !seen.contains e.born))++(List.filter (fun e=>Nat.ble since e.born) (arr.toList.filter fun e => !seen.contains e.born))).map some=C at c1 c2
     obtain ⟨j,w1,hw1,hrun,hlt⟩:=CX (P:=P) (.mapNext C.toArray.size) w;have hj:=hlt _ rfl (by simpa using c1);simp only [List.size_toArray] at hj;have hseen:∀b,seen.toArray.contains b=seen.contains b:=fun b=>by simp
     have htest:(!seen.toArray.isEmpty && !arr.isEmpty&&arr.all fun x=>decide (x.born≥last))=false:=by
      rw [←hg];have hb':=a2.born
      have e1:arr.isEmpty=es.isEmpty:=by
       have:=a2.1;obtain ⟨l⟩:=arr
       cases l<;>cases es<;>simp_all
      have e2:(arr.all fun x=>decide (x.born≥last))=es.all fun e=>Nat.ble last e.2.2:=by
       rw [←Array.all_toList]
       have h1:(arr.toList.all fun x=>decide (x.born≥last))=(arr.toList.map (·.born)).all fun b=>Nat.ble last b:=by
        simp only [List.all_map,Function.comp_def,xZ,ge_iff_le]
       have h2:(es.all fun e=>Nat.ble last e.2.2)=(es.map (·.2.2)).all fun b=>Nat.ble last b:=by
        simp only [List.all_map,Function.comp_def]
       rw [h1,h2,hb']
      rw [e1,e2];simp
     have ff:∀(p:MapEntry→Bool) (q:MapEntry→Bool),(∀x,p x=q x)→(arr.filter fun e => !seen.toArray.contains e.born).filter p=(List.filter q (arr.toList.filter fun e => !seen.contains e.born)).toArray:=by
      intro p q hpq;have:p=q:=funext hpq;subst this;obtain ⟨l⟩:=arr;simp
     have hcand:(if ((arr.filter fun e => !seen.toArray.contains e.born).filter fun e=>decide (e.born<since)).isEmpty then #[none] else #[])++(((arr.filter fun e => !seen.toArray.contains e.born).filter fun e=>decide (e.born<since))++((arr.filter fun e => !seen.toArray.contains e.born).filter fun e=>decide (e.born≥since))).map some=C.toArray:=by
      rw [ff (fun e=>decide (e.born<since)) (fun e=>Nat.blt e.born since) (fun x=>(DP _ _).symm),ff (fun e=>decide (e.born≥since)) (fun e=>Nat.ble since e.born) (fun x=>(xZ _ _).symm),←hC];generalize List.filter (fun e=>Nat.blt e.born since) (arr.toList.filter fun e => !seen.contains e.born)=A;generalize List.filter (fun e=>Nat.ble since e.born) (arr.toList.filter fun e => !seen.contains e.born)=B
      cases A<;>simp
     have hrn:∀{R:Result Value},(match C.toArray[j]? with
       | some (some e)=>do
        setObj y.1 (.mapIter (some z.1) since (seen.toArray.push e.born) clock)
        pure (.tuple #[.bool true,e.key,e.val])
       | some none=>pure (.tuple #[.bool false])
       | none=>stuck "Next: no such candidate":Sem Value).run P w1=R→(Instr.next (.pointer (some ⟨y.1,0,none⟩)) false ty).run P w=R:=by
      intro R hR;simp only [Instr.next,getObj,Sem.run_bind,Sem.run,o1,a1,Result.andThen,htest,Bool.false_eq_true,if_false,hcand,hrun];exact hR
     rcases c2 j hj with ⟨e1,e2⟩|⟨K,X,k,v,born,e1,e2,e3,e4⟩
     ·have hm:=qy (h:=h) (b:=b) (m:=m) (since:=since) (seen:=seen) (es:=es) (clock:=clock) e2;rw [hv] at hm
      refine ⟨_,_,hm,μ,_,w1,?_,?_,uF,hrn (by rw [List.getElem?_toArray,e1];rfl)⟩
      ·rcases hw1 with rfl|rfl
       ·exact Grows.refl _ _
       ·exact Grows.ca rfl rfl rfl rfl
      ·rcases hw1 with rfl|rfl
       ·exact hh
       ·exact hh.ca rfl
     ·have hm:=qy (h:=h) (b:=b) (m:=m) (since:=since) (seen:=seen) (es:=es) (clock:=clock) e2;rw [hv] at hm;have o1':w1.heap[y.1]?=some (.mapIter (some z.1) since seen.toArray last):=by rcases hw1 with rfl|rfl<;>exact o1
      have hheap:w1.heap=w.heap:=by rcases hw1 with rfl|rfl<;>rfl
      refine ⟨_,_,hm,μ,.tuple #[.bool true,K,X],World.at_ w1 y.1 (.mapIter (some z.1) since (seen.toArray.push born) clock),?_,?_,vh (by simp only [conc]) e3 e4,hrn ?_⟩
      ·exact Grows.change hy (by rw [io,hheap]) (fun g hg=>by rw [gj hg,hheap]) (by rcases hw1 with rfl|rfl<;>rfl) (by rcases hw1 with rfl|rfl<;>rfl) (by rcases hw1 with rfl|rfl<;>rfl)
      ·refine HR.change hh hb hy ?_ (by rw [io,hheap]) (fun g hg=>by rw [gj hg,hheap]) (mc (gf o1'));have:=BR.mapIter (E:=E) (ρ:=ρ) (μ:=μ) (m:=some m) (since:=since) (seen:=seen++[born]) (stepped:=clock) (x:=y) (m':=some z.1) ⟨z,hz,rfl⟩;simpa using this
      ·rw [List.getElem?_toArray,e1];simp [setObj,Sem.run,o1',World.at_]
    ·cases hv
  ·cases hv
 ·cases hv
theorem BV:∀(l:List Nat),zi l=l.getLast?
 | []=>rfl
 | [x]=>rfl
 | x::y::r=>by
  have:=BV (y::r);simp only [zi] at this ⊢;rw [List.getLast?_cons_cons];exact this
theorem p9 {n:Nat}:∀{es:List (V×V×Nat)} {l:List MapEntry} {k v:V},EsR ρ μ es l→kG n es=some (k,v)→∃e,l.find? (fun e=>e.born==n)=some e∧conc ρ μ k=some e.key∧conc ρ μ v=some e.val
 | [],l,k,v,_,h=>by cases h
 | (k',v',b)::es,l,k,v,hes,h=>by
  obtain ⟨K,X,l',rfl,e1,e2,e3⟩:=hes.cons;simp only [kG] at h
  cases hb:Nat.beq b n with
  | true =>
   rw [hb,cond_true] at h;injection h with h;obtain ⟨rfl,rfl⟩:=Prod.mk.inj h;exact ⟨⟨K,X,b⟩,by simp [aS hb],e1,e2⟩
  | false =>
   rw [hb,cond_false] at h;obtain ⟨e,h1,h2⟩:=p9 e3 h;have hne:¬b=n:=by rintro rfl;simp at hb
   exact ⟨e,by simp [hne,h1],h2⟩
theorem CW {h:H} {w:World} (hh:HR E ρ μ h w) {it v:V} {X:Value} (hv:rA h it=some v) (hx:conc ρ μ it=some X) :
  ∃Y,conc ρ μ v=some Y∧(Instr.entry X).run P w=.ok Y w:=by
 unfold rA at hv
 split at hv
 ·rename_i b;obtain ⟨y,hy,rfl⟩:=zA hx
  split at hv
  ·rename_i m since seen stepped hb;obtain ⟨o,o1,o2⟩:=uH hh hb hy
   cases o2 with
   | mapIter hm =>
    simp only at hm;obtain ⟨z,hz,rfl⟩:=hm
    split at hv
    ·rename_i stamp es clock hst hbm;obtain ⟨arr,a1,a2⟩:=rp hh hbm hz;obtain ⟨hq,hv2⟩:=cI hv;have hq:=aS hq;subst hq;obtain ⟨e,he,rfl⟩:=aR.1 hv2;obtain ⟨k,u⟩:=e;obtain ⟨e,f1,f2,f3⟩:=p9 a2 he;refine ⟨.tuple #[e.key,e.val],Cs f2 f3,?_⟩;rw [BV] at hst;have hback:seen.toArray.back?=some stamp:=by simpa using hst
     have hfind:arr.find? (fun e=>e.born==stamp)=some e:=by rw [←Array.find?_toList];exact f1
     simp only [Instr.entry,getObj,Sem.run_bind,Sem.run,o1,a1,Result.andThen,hback,bne_self_eq_false,Bool.false_eq_true,if_false,hfind]
     rfl
    ·cases hv
  ·cases hv
 ·cases hv
end
end Go.Ev
