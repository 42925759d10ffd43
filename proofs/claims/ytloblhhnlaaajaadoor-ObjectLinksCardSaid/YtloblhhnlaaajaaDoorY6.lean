/- What an operation looks at; what it leaves alone. -/
import Derived.Test.YtloblhhnlaaajaaDoorY5
import Derived.Orders
set_option linter.unusedVariables false
set_option linter.unusedSimpArgs false
set_option linter.defProp false
namespace Go.Ev
open Go
mutual
theorem V.beq_eq:∀(x y:V),V.beq x y=true→x=y
 | .bool a,y,h=>by cases y<;>simp_all [V.beq]
 | .int k a,y,h=>by cases y<;>simp_all [V.beq]
 | .str s,y,h=>by cases y<;>simp_all [V.beq]
 | .ptr b o,y,h=>by cases y<;>simp_all [V.beq]
 | .gp b o,y,h=>by cases y<;>simp_all [V.beq]
 | .nilp,y,h=>by cases y<;>simp_all [V.beq]
 | .slice b o n c,y,h=>by
  cases y<;>simp [V.beq] at h
  rename_i b' o' n' c';obtain ⟨⟨⟨rfl,rfl⟩,rfl⟩,h⟩:=h
  cases c<;>cases c'<;>simp_all
 | .nils,y,h=>by cases y<;>simp_all [V.beq]
 | .gsl a n c,y,h=>by cases y<;>simp_all [V.beq]
 | .map b,y,h=>by cases y<;>simp_all [V.beq]
 | .nilm,y,h=>by cases y<;>simp_all [V.beq]
 | .func f a c,y,h=>by
  cases y<;>simp [V.beq] at h
  obtain ⟨⟨rfl,h1⟩,h2⟩:=h;rw [V.beqL_eq _ _ h1,V.beqL_eq _ _ h2]
 | .yield b,y,h=>by cases y<;>simp_all [V.beq]
 | .nilf,y,h=>by cases y<;>simp_all [V.beq]
 | .iface t v,y,h=>by
  cases y<;>simp [V.beq] at h
  obtain ⟨rfl,h1⟩:=h;rw [V.beq_eq _ _ h1]
 | .nili,y,h=>by cases y<;>simp_all [V.beq]
 | .agg a,y,h=>by
  cases y<;>simp [V.beq] at h
  rw [V.beqL_eq _ _ h]
 | .tuple a,y,h=>by
  cases y<;>simp [V.beq] at h
  rw [V.beqL_eq _ _ h]
 | .sym i,y,h=>by cases y<;>simp_all [V.beq]
theorem V.beqL_eq:∀(x y:List V),V.beqL x y=true→x=y
 | [],[],_=>rfl
 | [],_::_,h=>by simp [V.beqL] at h
 | _::_,[],h=>by simp [V.beqL] at h
 | x::xs,y::ys,h=>by
  simp [V.beqL] at h;rw [V.beq_eq _ _ h.1,V.beqL_eq _ _ h.2]
end
def iL (fr fr':Fr) (ts:List Nat):Prop:=∀t∈ts,fr.ts.get t=fr'.ts.get t
section
variable {E : Env} {ih : Rec}
theorem rl {fr fr':Fr} {x:Operand} (h:iL fr fr' (lF x)):opd fr x=opd fr' x:=by
 cases x with
 | tmp t=>exact h t (by simp [lF])
 | _=>rfl
theorem wR {fr fr':Fr}:∀{l:List Operand},iL fr fr' (l.flatMap lF)→jf fr l=jf fr' l
 | [],_=>rfl
 | x::r,h=>by
  simp only [bM] at h;simp only [jf,rl (x:=x) (fun t ht=>h t (List.mem_append_left _ ht)),wR (l:=r) (fun t ht=>h t (List.mem_append_right _ ht))]
theorem uY {fr fr':Fr}:∀{l:List (Nat×Operand)},iL fr fr' ((l.map (·.2)).flatMap lF)→ja fr l=ja fr' l
 | [],_=>rfl
 | (i,x)::r,h=>by
  simp only [bI,bM] at h;simp only [ja,rl (x:=x) (fun t ht=>h t (List.mem_append_left _ ht)),uY (l:=r) (fun t ht=>h t (List.mem_append_right _ ht))]
theorem Dd {fr fr':Fr} {x:Option Operand} (h:iL fr fr' (x.toList.flatMap lF)):mT fr x=mT fr' x:=by
 cases x with
 | none=>rfl
 | some x=>simp only [mT,rl (x:=x) (fun t ht=>h t (by simpa using ht))]
theorem iL.mono {fr fr':Fr} {a b:List Nat} (h:iL fr fr' a) (k:∀t∈b,t∈a):iL fr fr' b:=fun t ht=>h t (k t ht)
theorem pa {fr fr':Fr} {h:H} {o:Oper} (k:iL fr fr' (o.op.operands.toList.flatMap lF)):opV E ih fr h o=opV E ih fr' h o:=by
 obtain ⟨dst,op,type,pos,after,guard⟩:=o;simp only at k;have one:∀{x:Operand},(∀t∈lF x,t∈op.operands.toList.flatMap lF)→opd fr x=opd fr' x:=fun hx=>rl (k.mono hx);have lst:∀{l:List Operand},(∀t∈l.flatMap lF,t∈op.operands.toList.flatMap lF)→jf fr l=jf fr' l:=fun hx=>wR (k.mono hx);have lps:∀{l:List (Nat×Operand)},(∀t∈(l.map (·.2)).flatMap lF,t∈op.operands.toList.flatMap lF)→ja fr l=ja fr' l:=fun hx=>uY (k.mono hx)
 have lo:∀{x:Option Operand},(∀t∈x.toList.flatMap lF,t∈op.operands.toList.flatMap lF)→mT fr x=mT fr' x:=fun hx=>Dd (k.mono hx)
 cases op with
 | move x=>simp only [opV,one (x:=x) (by intro t ht;simp [Op.operands,ht])]
 | assign x=>simp only [opV,one (x:=x) (by intro t ht;simp [Op.operands,ht])]
 | pick c x y=>simp only [opV,one (x:=c) (by intro t ht;simp [Op.operands,ht]),one (x:=x) (by intro t ht;simp [Op.operands,ht]),one (x:=y) (by intro t ht;simp [Op.operands,ht])]
 | alloc t=>rfl
 | box t x=>simp only [opV,one (x:=x) (by intro t ht;simp [Op.operands,ht])]
 | build t ps=>simp only [opV,lps (l:=ps.toList) (by intro t ht;simpa [Op.operands] using ht)]
 | buildSlice t n ps=>simp only [opV,lps (l:=ps.toList) (by intro t ht;simpa [Op.operands] using ht)]
 | insert t m ky v=>simp only [opV,one (x:=m) (by intro t ht;simp [Op.operands,ht]),one (x:=ky) (by intro t ht;simp [Op.operands,ht]),one (x:=v) (by intro t ht;simp [Op.operands,ht])]
 | load t x=>simp only [opV,one (x:=x) (by intro t ht;simp [Op.operands,ht])]
 | store t x v=>simp only [opV,one (x:=x) (by intro t ht;simp [Op.operands,ht]),one (x:=v) (by intro t ht;simp [Op.operands,ht])]
 | nilCheck x=>simp only [opV,one (x:=x) (by intro t ht;simp [Op.operands,ht])]
 | binOp op t x y yt=>simp only [opV,one (x:=x) (by intro t ht;simp [Op.operands,ht]),one (x:=y) (by intro t ht;simp [Op.operands,ht])]
 | unOp op t x=>simp only [opV,one (x:=x) (by intro t ht;simp [Op.operands,ht])]
 | convert s d x=>simp only [opV,one (x:=x) (by intro t ht;simp [Op.operands,ht])]
 | makeInterface t x=>simp only [opV,one (x:=x) (by intro t ht;simp [Op.operands,ht])]
 | makeFunc f first cap =>
  have h1:=lst (l:=first.toList) (by intro t ht;simp only [Op.operands,Array.toList_append,List.flatMap_append];exact List.mem_append_left _ ht);have h2:=lst (l:=cap.toList) (by intro t ht;simp only [Op.operands,Array.toList_append,List.flatMap_append];exact List.mem_append_right _ ht);simp only [opV,h1,h2]
 | makeMap t r=>rfl
 | makeSlice t l c=>simp only [opV,one (x:=l) (by intro t ht;simp [Op.operands,ht]),one (x:=c) (by intro t ht;simp [Op.operands,ht])]
 | slice t x lo' hi mx =>
  have h1:=one (x:=x) (by intro t ht;simp [Op.operands,ht]);have h2:=lo (x:=lo') (by intro t ht;cases lo'<;>simp_all [Op.operands]);have h3:=lo (x:=hi) (by intro t ht;cases hi<;>simp_all [Op.operands]);have h4:=lo (x:=mx) (by intro t ht;cases mx<;>simp_all [Op.operands]);simp only [opV,h1,h2,h3,h4]
 | fieldAddr s x f=>simp only [opV,one (x:=x) (by intro t ht;simp [Op.operands,ht])]
 | field s x f=>simp only [opV,one (x:=x) (by intro t ht;simp [Op.operands,ht])]
 | indexAddr t x i=>simp only [opV,one (x:=x) (by intro t ht;simp [Op.operands,ht]),one (x:=i) (by intro t ht;simp [Op.operands,ht])]
 | index t x i=>simp only [opV,one (x:=x) (by intro t ht;simp [Op.operands,ht]),one (x:=i) (by intro t ht;simp [Op.operands,ht])]
 | lookup t x i ok=>simp only [opV,one (x:=x) (by intro t ht;simp [Op.operands,ht]),one (x:=i) (by intro t ht;simp [Op.operands,ht])]
 | mapUpdate t m ky v=>simp only [opV,one (x:=m) (by intro t ht;simp [Op.operands,ht]),one (x:=ky) (by intro t ht;simp [Op.operands,ht]),one (x:=v) (by intro t ht;simp [Op.operands,ht])]
 | range t x=>simp only [opV,one (x:=x) (by intro t ht;simp [Op.operands,ht])]
 | next x s=>simp only [opV,one (x:=x) (by intro t ht;simp [Op.operands,ht])]
 | entry x=>simp only [opV,one (x:=x) (by intro t ht;simp [Op.operands,ht])]
 | extract x i=>simp only [opV,one (x:=x) (by intro t ht;simp [Op.operands,ht])]
 | typeAssert x u t q=>simp only [opV,one (x:=x) (by intro t ht;simp [Op.operands,ht])]
 | sliceToArrayPointer t x=>simp only [opV,one (x:=x) (by intro t ht;simp [Op.operands,ht])]
 | call c =>
  obtain ⟨callee,args,argTypes⟩:=c
  have h1:=lst (l:=args.toList) (by
   intro t ht;simp only [Op.operands,Call.operands,Array.toList_append,List.flatMap_append];exact List.mem_append_right _ ht)
  cases callee with
  | value f =>
   have h2:=one (x:=f) (by intro t ht;simp [Op.operands,Call.operands,ht]);simp only [opV,h1]
   cases jf fr' args.toList<;>simp only [h2]
  | builtin b =>
   simp only [opV,h1]
   cases jf fr' args.toList<;>rfl
  | invoke r n =>
   have h2:=one (x:=r) (by intro t ht;simp [Op.operands,Call.operands,ht]);simp only [opV,h1]
   cases jf fr' args.toList<;>simp only [h2]
 | _=>rfl
theorem eO {fr fr':Fr} {ops:List Oper} {o:Oper} (k:iL fr fr' (looks ops o)):dS fr ops o=dS fr' ops o:=by
 unfold dS
 cases hg:o.guard with
 | none=>rfl
 | some g =>
  obtain ⟨j,want⟩:=g;simp only
  cases hj:nth ops j with
  | none=>rfl
  | some x =>
   cases hd:x.dst with
   | none=>simp [hd]
   | some d=>simp only [hd,k d (by simp [looks,hg,hj,hd])]
theorem mX {fr fr':Fr} {ops:List Oper} {o:Oper} (k:iL fr fr' (looks ops o)):iL fr fr' (o.op.operands.toList.flatMap lF) :=
 k.mono fun t ht=>by simp only [looks];exact List.mem_append_left _ ht
theorem oZ {x:Option V} {h:H} {outs:List (V×H)} (e:rv h x=some outs):∃v,outs=[(v,h)]∧∀h2,rv h2 x=some [(v,h2)]:=by
 obtain ⟨v,rfl,rfl⟩:=eN e;exact ⟨v,rfl,fun h2=>rfl⟩
theorem pI {x:V} {h:H} {outs:List (V×H)} (e:fQ (x,h)=some outs):∃v,outs=[(v,h)]∧∀h2:H,fQ (x,h2)=some [(v,h2)]:=by
 obtain rfl:=cT e;exact ⟨x,rfl,fun h2=>rfl⟩
theorem BI {fr:Fr} {h:H} {o:Oper} {outs:List (V×H)} (hc:ot E o=.pure) (hv:opV E ih fr h o=some outs) :
  ∃v,outs=[(v,h)]∧∀h2,opV E ih fr h2 o=some [(v,h2)]:=by
 obtain ⟨dst,op,type,pos,after,guard⟩:=o
 cases op with
 | move x=>exact oZ hv
 | assign x=>exact oZ hv
 | pick c x y =>
  simp only [opV] at hv ⊢
  cases hx:opd fr c with
  | none=>rw [hx] at hv;cases hv
  | some z =>
   rw [hx] at hv
   cases z with
   | bool t=>exact oZ hv
   | _=>cases hv
 | nilCheck x =>
  simp only [opV] at hv ⊢
  cases hx:opd fr x with
  | none=>rw [hx] at hv;cases hv
  | some z =>
   rw [hx] at hv
   cases z with
   | ptr b o=>exact pI hv
   | gp b o=>exact pI hv
   | func f a c=>exact pI hv
   | yield b=>exact pI hv
   | iface t v=>exact pI hv
   | _=>cases hv
 | unOp op t x =>
  simp only [opV] at hv ⊢
  cases hx:opd fr x with
  | none=>rw [hx] at hv;cases hv
  | some z=>rw [hx] at hv;exact oZ hv
 | build t ps =>
  simp only [opV] at hv ⊢
  cases hi:E.tys.get t with
  | none=>rw [hi] at hv;cases hv
  | some i =>
   cases hx:ja fr ps.toList with
   | none=>rw [hi,hx] at hv;cases hv
   | some vs =>
    rw [hi,hx] at hv;simp only at hv ⊢
    split at hv
    ·rename_i fs hd
     cases hb : !(fs.toList.all fun f=>(E.tys.get f.type).isSome) with
     | true=>rw [hb] at hv;cases hv
     | false=>rw [hb] at hv;exact oZ hv
    ·rename_i n e hd
     cases hs:dy E e with
     | none=>rw [hs] at hv;cases hv
     | some s=>rw [hs] at hv;exact oZ hv
    ·cases hv
 | fieldAddr s x f =>
  simp only [opV] at hv ⊢
  cases hx:opd fr x with
  | none=>rw [hx] at hv;cases hv
  | some z=>rw [hx] at hv;exact oZ hv
 | field s x f =>
  simp only [opV] at hv ⊢
  cases hx:opd fr x with
  | none=>rw [hx] at hv;cases hv
  | some z=>rw [hx] at hv;exact oZ hv
 | sliceToArrayPointer t x =>
  simp only [opV] at hv ⊢
  cases hx:opd fr x with
  | none=>rw [hx] at hv;cases hv
  | some z=>rw [hx] at hv;exact oZ hv
 | indexAddr t x i =>
  simp only [opV] at hv ⊢
  cases hx:opd fr x with
  | none=>rw [hx] at hv;cases hv
  | some z =>
   cases hy:opd fr i with
   | none=>rw [hx,hy] at hv;cases hv
   | some u=>rw [hx,hy] at hv;exact oZ hv
 | index t x i =>
  simp only [opV] at hv ⊢
  cases hx:opd fr x with
  | none=>rw [hx] at hv;cases hv
  | some z =>
   cases hy:opd fr i with
   | none=>rw [hx,hy] at hv;cases hv
   | some u=>rw [hx,hy] at hv;exact oZ hv
 | extract x i =>
  simp only [opV] at hv ⊢
  cases hx:opd fr x with
  | none=>rw [hx] at hv;cases hv
  | some z =>
   rw [hx] at hv
   cases z with
   | tuple vs=>exact oZ hv
   | _=>cases hv
 | makeInterface t x =>
  simp only [opV] at hv ⊢
  cases hx:opd fr x with
  | none=>rw [hx] at hv;cases hv
  | some z =>
   cases hi:E.tys.get t with
   | none=>rw [hx,hi] at hv;cases hv
   | some i =>
    rw [hx,hi] at hv;simp only at hv ⊢
    split at hv
    ·cases hv
    ·exact pI hv
 | makeFunc f first cap =>
  simp only [opV] at hv ⊢
  cases hx:jf fr first.toList with
  | none=>rw [hx] at hv;cases f<;>cases hv
  | some z =>
   cases hy:jf fr cap.toList with
   | none=>rw [hx,hy] at hv;cases f<;>cases hv
   | some u =>
    rw [hx,hy] at hv
    cases f with
    | func f=>exact pI hv
    | _=>cases hv
 | slice t x lo hi mx =>
  simp only [opV] at hv ⊢
  cases hx:opd fr x with
  | none=>rw [hx] at hv;cases hv
  | some z =>
   cases h1:mT fr lo with
   | none=>rw [hx,h1] at hv;cases hv
   | some l1 =>
    cases h2:mT fr hi with
    | none=>rw [hx,h1,h2] at hv;cases hv
    | some l2 =>
     cases h3:mT fr mx with
     | none=>rw [hx,h1,h2,h3] at hv;cases hv
     | some l3=>rw [hx,h1,h2,h3] at hv;exact oZ hv
 | convert s d x =>
  simp only [ot] at hc
  split at hc
  ·split at hc<;>cases hc
  ·cases hc
 | call c =>
  simp only [ot] at hc
  split at hc<;>cases hc
 | _=>cases hc
theorem BH {fr:Fr} {h:H} {o:Oper} {outs:List (V×H)} (hc:ot E o=.read) (hv:opV E ih fr h o=some outs):∃v,outs=[(v,h)]:=by
 obtain ⟨dst,op,type,pos,after,guard⟩:=o
 have r:∀{x:Option V} {outs:List (V×H)},rv h x=some outs→∃v,outs=[(v,h)]:=fun e=>by
  obtain ⟨v,_,e2⟩:=eN e;exact ⟨v,e2⟩
 cases op with
 | load t x =>
  simp only [opV] at hv
  split at hv
  ·exact r hv
  ·exact r hv
  ·cases hv
 | lookup t m ky okk =>
  simp only [opV] at hv
  split at hv
  ·exact r hv
  ·cases hv
 | binOp op t x y yt =>
  simp only [opV] at hv
  split at hv
  ·exact r hv
  ·cases hv
 | typeAssert x a b c =>
  simp only [opV] at hv
  split at hv
  ·exact r hv
  ·cases hv
 | convert s d x =>
  simp only [ot] at hc
  split at hc
  ·rename_i i hi;simp only [opV] at hv
   split at hv
   ·rename_i u hu;obtain ⟨v,h1,rfl⟩:=kQ hv;obtain ⟨v,h'⟩:=v;refine ⟨v,?_⟩
    have:h'=h:=by
     unfold j3 at h1
     split at h1
     ·rename_i si di hsi hdi;rw [hi] at hdi;injection hdi with hdi;subst hdi
      split at h1
      ·injection h1 with h1;exact (Prod.mk.inj h1).2.symm
      ·injection h1 with h1;exact (Prod.mk.inj h1).2.symm
      ·rename_i e s q1 q2;rw [q2] at hc;cases hc
      ·split at h1
       ·split at h1
        ·injection h1 with h1;exact (Prod.mk.inj h1).2.symm
        ·cases h1
       ·cases h1
      ·split at h1
       ·split at h1
        ·split at h1
         ·injection h1 with h1;exact (Prod.mk.inj h1).2.symm
         ·split at h1
          ·split at h1
           ·obtain ⟨s,_,h1⟩:=aR.1 h1;exact (Prod.mk.inj h1).2.symm
           ·cases h1
          ·cases h1
        ·cases h1
       ·cases h1
      ·rename_i q1 q2;rw [q2] at hc;cases hc
      ·split at h1
       ·split at h1
        ·split at h1
         ·obtain ⟨s,_,h1⟩:=aR.1 h1;exact (Prod.mk.inj h1).2.symm
         ·cases h1
        ·cases h1
       ·cases h1
      ·cases h1
     ·cases h1
    rw [this]
   ·cases hv
  ·cases hc
 | call c =>
  obtain ⟨callee,args,argTypes⟩:=c;simp only [ot] at hc
  split at hc
  ·simp only [opV] at hv
   cases ho:jf fr args.toList with
   | none=>rw [ho] at hv;cases hv
   | some vs =>
    rw [ho] at hv;simp only [iP] at hv
    split at hv
    ·exact r hv
    ·cases hv
  ·cases hc
 | _=>cases hc
end
theorem mH {m d:Nat} (h:ip m d=true) {k:Nat} (hk:Nat.testBit m k=true):Nat.testBit d k=true:=by
 have:=aS h;have h2:(Nat.land m d).testBit k=m.testBit k:=by rw [this]
 have h3:(m &&& d).testBit k=m.testBit k:=h2;rw [Nat.testBit_and,hk] at h3;simpa using h3
theorem yH {m d:Nat} (h:∀k,Nat.testBit m k=true→Nat.testBit d k=true):ip m d=true:=by
 unfold ip
 have:Nat.land m d=m:=by
  apply Nat.eq_of_testBit_eq;intro k;show (m &&& d).testBit k=_;rw [Nat.testBit_and]
  cases hm:m.testBit k with
  | false=>rfl
  | true=>rw [h k hm];rfl
 rw [this];exact Nat.beq_refl m
theorem tq (k:Nat):Nat.testBit 1 k=decide (k=0):=by
 cases k with
 | zero=>rfl
 | succ k=>simp [Nat.testBit_succ]
theorem eU {d i k:Nat}:Nat.testBit (ee d i) k=(Nat.testBit d k||decide (k=i)):=by
 show (d ||| (1 <<< i)).testBit k=_;rw [Nat.testBit_or,Nat.testBit_shiftLeft]
 congr 1
 rw [tq];rw [Bool.eq_iff_iff];simp;omega
theorem BS {x:Nat}:∀{l:List Nat},nK x l=true↔x∈l
 | []=>by simp [nK]
 | y::r=>by
  simp only [nK,aW]
  cases h:Nat.beq x y with
  | true=>simp [aS h]
  | false =>
   have:x≠y:=by rintro rfl;simp at h
   simp [this,BS (l:=r)]
def Ad (acc:List Nat) (o:Oper):Nat:=o.after.toList.foldl (fun s e=>bif Region.binds .any e then Nat.lor s (Nat.lor (Nat.shiftLeft 1 e.on) ((nth acc e.on).getD 0)) else s) 0
theorem xu {acc:List Nat} {k:Nat}:∀(l:List Edge) (s:Nat),Nat.testBit (l.foldl (fun s e=>bif Region.binds .any e then Nat.lor s (Nat.lor (Nat.shiftLeft 1 e.on) ((nth acc e.on).getD 0)) else s) s) k=true →
  Nat.testBit s k=true∨∃e∈l,Region.binds .any e=true∧(k=e.on∨Nat.testBit ((nth acc e.on).getD 0) k=true)
 | [],s,h=>.inl h
 | e::l,s,h=>by
  rw [List.foldl_cons] at h
  rcases xu l _ h with h|⟨e',he,h1,h2⟩
  ·cases hb:Region.binds .any e with
   | false=>rw [hb] at h;exact .inl h
   | true =>
    rw [hb,cond_true] at h;have h':(s ||| ((1 <<< e.on) ||| ((nth acc e.on).getD 0))).testBit k=true:=h;rw [Nat.testBit_or,Nat.testBit_or,Nat.testBit_shiftLeft,tq] at h';simp only [bS,aU,decide_eq_true_eq] at h'
    rcases h' with h'|h'|h'
    ·exact .inl h'
    ·exact .inr ⟨e,by simp,hb,.inl (by omega)⟩
    ·exact .inr ⟨e,by simp,hb,.inr h'⟩
  ·exact .inr ⟨e',aM _ he,h1,h2⟩
theorem sJ:∀(l:List Oper) (acc:List Nat),∃r,pZ l acc=acc++r∧r.length=l.length∧∀(j:Nat) o,l[j]?=some o→r[j]?=some (Ad (acc++r.take j) o)
 | [],acc=>⟨[],by simp [pZ],rfl,fun j o h=>by simp at h⟩
 | x::l,acc=>by
  obtain ⟨r,h1,h2,h3⟩:=sJ l (acc++[Ad acc x])
  refine ⟨Ad acc x::r,?_,by simp [h2],fun j o hj=>?_⟩
  ·simp only [pZ];show pZ l (acc++[Ad acc x])=_;rw [h1];simp
  ·cases j with
   | zero=>simp at hj;subst hj;simp
   | succ j =>
    have:=h3 j o (by simpa using hj);simpa [bV] using this
theorem zb:∀(l:List Oper) (ms:List Nat) (i:Nat),ms.length=l.length→∀(j m:Nat) (o:Oper),(j,m,o)∈iZ l ms i↔i≤j∧l[j - i]?=some o∧ms[j - i]?=some m
 | [],ms,i,h,j,m,o=>by
  cases ms<;>simp [iZ]
 | x::l,[],i,h,j,m,o=>by simp at h
 | x::l,m0::ms,i,h,j,m,o=>by
  simp only [iZ,aW,Prod.mk.injEq];rw [zb l ms (Nat.succ i) (by simpa using h) j m o]
  constructor
  ·rintro (⟨rfl,rfl,rfl⟩|⟨h1,h2,h3⟩)
   ·simp
   ·have e:j - i=(j - Nat.succ i)+1:=by omega
    exact ⟨by omega,by rw [e];simpa using h2,by rw [e];simpa using h3⟩
  ·rintro ⟨h1,h2,h3⟩
   by_cases hj:j=i
   ·subst hj;simp at h2 h3;exact .inl ⟨rfl,h3.symm,h2.symm⟩
   ·have e:j - i=(j - Nat.succ i)+1:=by omega
    rw [e] at h2 h3;exact .inr ⟨by omega,by simpa using h2,by simpa using h3⟩
structure Stat (ops:Array Oper) (ps0:List Pn):Prop where
 mem:∀j o,ops[j]?=some o→∃m,(j,m,o)∈ps0
 op:∀j m o,(j,m,o)∈ps0→ops[j]?=some o
 one:∀j m m' o o',(j,m,o)∈ps0→(j,m',o')∈ps0→m=m'∧o=o'
 look:∀p q d,p∈ps0→q∈ps0→q.2.2.dst=some d→d∈looks ops.toList p.2.2→Nat.testBit p.2.1 q.1=true∨(pk q.2.2=true∧Nat.testBit q.2.1 p.1=true)
 dst:∀p q d,p∈ps0→q∈ps0→p.1≠q.1→q.2.2.dst=some d→p.2.2.dst≠some d
 back:∀p,p∈ps0→∀e∈p.2.2.after,Region.binds .any e=true→e.on<p.1
 bits:∀p,p∈ps0→∀k,Nat.testBit p.2.1 k=true→∃e∈p.2.2.after,Region.binds .any e=true∧(k=e.on∨∃m o,(e.on,m,o)∈ps0∧Nat.testBit m k=true)
theorem stat_of (ops:Array Oper) (h:xP ops.toList (iZ ops.toList (pZ ops.toList []) 0)=true):Stat ops (iZ ops.toList (pZ ops.toList []) 0):=by
 obtain ⟨r,h1,h2,h3⟩:=sJ ops.toList [];rw [List.nil_append] at h1;rw [h1] at h ⊢;have hm:=zb ops.toList r 0 h2
 have mem':∀j m o,(j,m,o)∈iZ ops.toList r 0↔ops[j]?=some o∧r[j]?=some m:=fun j m o=>by
  rw [hm];simp
 unfold xP at h;rw [bH] at h
 have hb:∀p∈iZ ops.toList r 0,∀e∈p.2.2.after,Region.binds .any e=true→e.on<p.1:=by
  intro p hp e he hbe;have:=h p hp;rw [aU] at this;have:=this.1;unfold zw at this;rw [bH] at this;have:=this e (by simpa using he);rw [hbe] at this;simpa using this
 have hl:∀p q d,p∈iZ ops.toList r 0→q∈iZ ops.toList r 0→q.2.2.dst=some d→(Nat.testBit p.2.1 q.1 || !(nK d (looks ops.toList p.2.2))||(pk q.2.2&&Nat.testBit q.2.1 p.1))=true∧(Nat.beq p.1 q.1||(match p.2.2.dst with|some d' => !(Nat.beq d d')|none=>true))=true:=by
  intro p q d hp hq hd;have:=h p hp;rw [aU] at this;have:=this.2;unfold I7 at this;rw [bH] at this;have:=this q hq;rw [hd] at this;rw [aU] at this;exact this
 refine ⟨fun j o ho=>?_,fun j m o h=>((mem' j m o).1 h).1,fun j m m' o o' h h'=>?_,fun p q d hp hq hd hlk=>?_,fun p q d hp hq hne hd=>?_,hb,fun p hp k hk=>?_⟩
 ·have hlt:=(Array.getElem?_eq_some_iff.1 ho).1;have hlt':j<r.length:=by rw [h2];simpa using hlt
  exact ⟨_,(mem' _ _ _).2 ⟨ho,List.getElem?_eq_getElem hlt'⟩⟩
 ·rw [mem'] at h h';have e1:=h.1;rw [h'.1] at e1;have e2:=h.2;rw [h'.2] at e2;injection e1 with e1;injection e2 with e2;exact ⟨e2.symm,e1.symm⟩
 ·obtain ⟨q1,_⟩:=hl p q d hp hq hd;rw [BS.2 hlk] at q1;simpa using q1
 ·obtain ⟨_,q2⟩:=hl p q d hp hq hd;intro e;rw [e] at q2
  have:Nat.beq p.1 q.1=false:=by
   cases hq:Nat.beq p.1 q.1 with
   | false=>rfl
   | true=>exact absurd (aS hq) hne
  rw [this] at q2;simp at q2
 ·obtain ⟨j,m,o⟩:=p;have ⟨ho,hmj⟩:=(mem' j m o).1 hp;have hspec:=h3 j o (by simpa using ho);rw [hmj] at hspec;injection hspec with hspec;simp only at hk;rw [hspec,List.nil_append] at hk
  rcases xu _ _ hk with hk|⟨e,he,he1,he2⟩
  ·simp at hk
  ·refine ⟨e,by simpa using he,he1,?_⟩
   rcases he2 with he2|he2
   ·exact .inl he2
   ·right
    rw [jO] at he2
    cases hacc:(r.take j)[e.on]? with
    | none=>rw [hacc] at he2;simp at he2
    | some me =>
     rw [hacc] at he2
     have hre:r[e.on]?=some me:=by
      rw [List.getElem?_take] at hacc
      split at hacc
      ·exact hacc
      ·cases hacc
     have hlt:=(List.getElem?_eq_some_iff.1 hre).1;have hoe:ops[e.on]?=some (ops[e.on]'(by rw [h2] at hlt;simpa using hlt)):=Array.getElem?_eq_getElem _;exact ⟨me,_,(mem' _ _ _).2 ⟨hoe,hre⟩,he2⟩
theorem sK {E:Env} {done:Nat}:∀{ps:List Pn} {p:Pn} {rest:List Pn},kx E done ps=some (p,rest)→iB E p.2.2=false∧ip p.2.1 done=true∧p∈ps∧(∀q∈ps,q=p∨q∈rest)∧(∀q∈rest,q∈ps)
 | [],_,_,h=>by cases h
 | q::r,p,rest,h=>by
  simp only [kx] at h
  cases hc:(!(iB E q.2.2)&&ip q.2.1 done) with
  | true =>
   rw [hc,cond_true] at h;injection h with h;obtain ⟨rfl,rfl⟩:=Prod.mk.inj h;simp only [aU,Bool.not_eq_true'] at hc;exact ⟨hc.1,hc.2,by simp,fun x hx=>by simpa using hx,fun x hx=>aM _ hx⟩
  | false =>
   rw [hc,cond_false] at h
   split at h
   ·cases h
   ·rename_i p' r' hp;injection h with h;obtain ⟨rfl,rfl⟩:=Prod.mk.inj h;obtain ⟨h1,h2,h3,h4,h5⟩:=sK hp
    refine ⟨h1,h2,aM _ h3,fun x hx=>?_,fun x hx=>?_⟩
    ·rcases aW.1 hx with rfl|hx
     ·exact .inr (by simp)
     ·exact (h4 x hx).imp id (aM _)
    ·rcases aW.1 hx with rfl|hx
     ·simp
     ·exact aM _ (h5 x hx)
theorem wO {E:Env} {done:Nat}:∀{ps:List Pn},kx E done ps=none→∀p∈ps,ip p.2.1 done=true→iB E p.2.2=true
 | [],_,p,hp,_=>by cases hp
 | q::r,h,p,hp,hw=>by
  simp only [kx] at h
  cases hc:(!(iB E q.2.2)&&ip q.2.1 done) with
  | true=>rw [hc] at h;cases h
  | false =>
   rw [hc,cond_false] at h
   split at h
   ·rename_i hn
    rcases aW.1 hp with rfl|hp
    ·rw [hw] at hc;simpa using hc
    ·exact wO hn p hp hw
   ·cases h
theorem za {E:Env} {done:Nat}:∀{ps:List Pn} {p:Pn},p∈ps→iB E p.2.2=true→ip p.2.1 done=true→∃rest,(p,rest)∈jY E done ps
 | [],p,h,_,_=>by cases h
 | q::r,p,h,he,hw=>by
  simp only [jY,bN]
  rcases aW.1 h with rfl|h
  ·exact ⟨r,.inl (by rw [he,hw];simp)⟩
  ·obtain ⟨rest,hr⟩:=za h he hw;exact ⟨q::rest,.inr (bP.2 ⟨_,hr,rfl⟩)⟩
theorem wP {E:Env} {done:Nat}:∀{ps:List Pn} {p:Pn} {rest:List Pn},(p,rest)∈jY E done ps→iB E p.2.2=true∧ip p.2.1 done=true∧p∈ps∧(∀q∈ps,q=p∨q∈rest)∧(∀q∈rest,q∈ps)
 | [],_,_,h=>by cases h
 | q::r,p,rest,h=>by
  simp only [jY,bN] at h
  rcases h with h|h
  ·cases hc:(iB E q.2.2&&ip q.2.1 done) with
   | false=>rw [hc] at h;cases h
   | true =>
    rw [hc,cond_true,aN] at h;obtain ⟨rfl,rfl⟩:=Prod.mk.inj h;simp only [aU] at hc;exact ⟨hc.1,hc.2,by simp,fun x hx=>by simpa using hx,fun x hx=>aM _ hx⟩
  ·obtain ⟨⟨p',r'⟩,hm,he⟩:=bP.1 h;obtain ⟨rfl,rfl⟩:=Prod.mk.inj he;obtain ⟨h1,h2,h3,h4,h5⟩:=wP hm
   refine ⟨h1,h2,aM _ h3,fun x hx=>?_,fun x hx=>?_⟩
   ·rcases aW.1 hx with rfl|hx
    ·exact .inr (by simp)
    ·exact (h4 x hx).imp id (aM _)
   ·rcases aW.1 hx with rfl|hx
    ·simp
    ·exact aM _ (h5 x hx)
abbrev Dn (listed:Array Bool) (j:Nat):Prop:=listed.getD j false=true
theorem Fr.put_get {fr fr':Fr} {dst:Option Nat} {v:V} (h:fr.put dst v=some fr'):(∀t,fr'.ts.get t=if dst=some t then some v else fr.ts.get t)∧(∀d,dst=some d→d<fr.nt):=by
 cases dst with
 | none=>simp [Fr.put] at h;subst h;exact ⟨fun t=>by simp,fun d h=>by cases h⟩
 | some d =>
  simp only [Fr.put] at h;obtain ⟨hb,h⟩:=cI h;injection h with h;subst h;refine ⟨fun t=>?_,fun d' h=>by injection h with h;subst h;simpa using hb⟩;simp only [T.get_set]
  by_cases e:t=d
  ·subst e;simp
  ·rw [if_neg e,if_neg (fun q=>e (by injection q with q;exact q.symm))]
structure Inv (E:Env) (ρ:Rho) (ih:Rec) (ops:Array Oper) (ps0:List Pn) (μ:Mu) (a:Act) (w:World) (listed:Array Bool) (ps:List Pn) (done:Nat) (rd:List (Nat×Oper×V)) (fr:Fr) (h:H):Prop where
 sz:listed.size=ops.size
 hr:HR E ρ μ h w
 tmps:∀t v,fr.ts.get t=some v→(∀j m o,(j,m,o)∈ps0→Nat.testBit done j=true→¬Dn listed j→o.dst≠some t)→∃X,conc ρ μ v=some X∧a.tmps[t]?=some X
 size:a.tmps.size=fr.nt
 defs:DR μ fr.mks a.defers
 sub:∀j,Dn listed j→Nat.testBit done j=true
 pend:∀j m o,(j,m,o)∈ps0→Nat.testBit done j=true→¬Dn listed j→iB E o=false∧∃v,(∀d,o.dst=some d→fr.ts.get d=some v∧d<fr.nt) ∧
  ((dS fr ops.toList o=some false∧v=un)∨(dS fr ops.toList o=some true∧opV E ih fr h o=some [(v,h)]∧(jP E o=true→(j,o,v)∈rd)))
 clo:∀p∈ps0,Dn listed p.1→∀k,Nat.testBit p.2.1 k=true→Dn listed k
 psub:∀p∈ps,p∈ps0∧Nat.testBit done p.1=false
 pall:∀p∈ps0,p∈ps∨Nat.testBit done p.1=true
 dclo:∀p∈ps0,Nat.testBit done p.1=true→∀k,Nat.testBit p.2.1 k=true→Nat.testBit done k=true
section
variable {P : Program} {E : Env} {ρ : Rho} {μ : Mu} {ih : Rec} {ops : Array Oper} {ps0 : List Pn}
theorem te {E:Env} {o:Oper} (h:pk o=true):iB E o=true:=by
 unfold pk at h;unfold iB ot
 split at h
 ·rename_i ho;rw [ho]
 ·cases h
theorem yh (S:Stat ops ps0) {a:Act} {w:World} {listed:Array Bool} {ps:List Pn} {done:Nat} {rd:List (Nat×Oper×V)} {fr fr':Fr} {h:H} (I:Inv E ρ ih ops ps0 μ a w listed ps done rd fr h) {p:Pn} (hp:p∈ps) {v:V} (hput:fr.put p.2.2.dst v=some fr')
  {q:Pn} (hq:q∈ps0) (hd:Nat.testBit done q.1=true) (hap:pk p.2.2=true→Nat.testBit p.2.1 q.1=true→False):iL fr' fr (looks ops.toList q.2.2):=by
 intro t ht;rw [(Fr.put_get hput).1]
 by_cases e:p.2.2.dst=some t
 ·rcases S.look q p t hq (I.psub p hp).1 e ht with this|⟨q1,q2⟩
  ·have:=I.dclo q hq hd _ this;rw [(I.psub p hp).2] at this;cases this
  ·exact (hap q1 q2).elim
 ·rw [if_neg e]
theorem Hq (S:Stat ops ps0) {a:Act} {w:World} {listed:Array Bool} {ps:List Pn} {done:Nat} {rd:List (Nat×Oper×V)} {fr fr':Fr} {h:H} (I:Inv E ρ ih ops ps0 μ a w listed ps done rd fr h) {p:Pn} (hp:p∈ps) (hw:ip p.2.1 done=true) {v:V} (hput:fr.put p.2.2.dst v=some fr') :
  iL fr' fr (looks ops.toList p.2.2):=by
 intro t ht;rw [(Fr.put_get hput).1]
 by_cases e:p.2.2.dst=some t
 ·have:=(S.look p p t (I.psub p hp).1 (I.psub p hp).1 e ht).elim id fun q=>q.2;have:=mH hw this;rw [(I.psub p hp).2] at this;cases this
 ·rw [if_neg e]
theorem zy (S:Stat ops ps0) {a:Act} {w:World} {listed:Array Bool} {ps:List Pn} {done:Nat} {rd:List (Nat×Oper×V)} {fr fr':Fr} {h:H} (I:Inv E ρ ih ops ps0 μ a w listed ps done rd fr h) {p:Pn} (hp:p∈ps) {v:V} (hput:fr.put p.2.2.dst v=some fr')
  {q:Pn} (hq:q∈ps0) (hd:Nat.testBit done q.1=true) {d:Nat} (he:q.2.2.dst=some d):fr'.ts.get d=fr.ts.get d:=by
 rw [(Fr.put_get hput).1,if_neg]
 have hne:p.1≠q.1:=by
  intro e;have:=(I.psub p hp).2;rw [e,hd] at this;cases this
 exact S.dst p q d (I.psub p hp).1 hq hne he
theorem ahead (S:Stat ops ps0) {a:Act} {w:World} {listed:Array Bool} {ps:List Pn} {done:Nat} {rd:List (Nat×Oper×V)} {fr fr':Fr} {h:H} (I:Inv E ρ ih ops ps0 μ a w listed ps done rd fr h) {p:Pn} {rest:List Pn} (hpick:kx E done ps=some (p,rest)) {v:V} (hput:fr.put p.2.2.dst v=some fr')
  {rd':List (Nat×Oper×V)} (hrd:∀x∈rd,x∈rd') (hv:(dS fr ops.toList p.2.2=some false∧v=un)∨(dS fr ops.toList p.2.2=some true∧opV E ih fr h p.2.2=some [(v,h)]∧(jP E p.2.2=true→(p.1,p.2.2,v)∈rd'))) (hnd:∀q∈rest,q.1≠p.1) :
  Inv E ρ ih ops ps0 μ a w listed rest (ee done p.1) rd' fr' h:=by
 obtain ⟨n1,n2,n3,n4,n5⟩:=sK hpick;obtain ⟨p1,p2,p3,p4⟩:=Fr.put_same hput
 have bit:∀{k},Nat.testBit (ee done p.1) k=true→Nat.testBit done k=true∨k=p.1:=fun hk=>by
  rw [eU] at hk;simpa using hk
 have bit':∀{k},Nat.testBit done k=true→Nat.testBit (ee done p.1) k=true:=fun hk=>by rw [eU,hk];rfl
 have bitp:Nat.testBit (ee done p.1) p.1=true:=by rw [eU];simp
 have notlisted:¬Dn listed p.1:=fun q=>by have:=I.sub _ q;rw [(I.psub p n3).2] at this;cases this
 refine ⟨I.sz,I.hr,fun t u hu hpend=>?_,by rw [p1];exact I.size,by rw [p2];exact I.defs,fun j hj=>bit' (I.sub j hj),fun j m o hj hb hl=>?_,I.clo,fun q hq=>⟨(I.psub q (n5 q hq)).1,?_⟩,fun q hq=>?_,fun q hq hb k hk=>?_⟩
 ·have ht:p.2.2.dst≠some t:=hpend p.1 p.2.1 p.2.2 (I.psub p n3).1 bitp notlisted;rw [(Fr.put_get hput).1,if_neg ht] at hu;exact I.tmps t u hu fun j m o hj hb hl=>hpend j m o hj (bit' hb) hl
 ·rcases bit hb with hb|rfl
  ·obtain ⟨q1,u,q2,q3⟩:=I.pend j m o hj hb hl;have ag:=yh S I n3 hput (q:=(j,m,o)) hj hb (fun q _=>by rw [te q] at n1;cases n1)
   refine ⟨q1,u,fun d hd=>?_,?_⟩
   ·rw [zy S I n3 hput (q:=(j,m,o)) hj hb hd,p1];exact q2 d hd
   ·rcases q3 with ⟨q3,q4⟩|⟨q3,q4,q5⟩
    ·exact .inl ⟨by rw [eO ag];exact q3,q4⟩
    ·exact .inr ⟨by rw [eO ag];exact q3,by rw [pa (mX ag)];exact q4,fun r=>hrd _ (q5 r)⟩
  ·obtain ⟨rfl,rfl⟩:=S.one _ _ _ _ _ hj (I.psub p n3).1;have ag:=Hq S I n3 n2 hput
   refine ⟨n1,v,fun d hd=>?_,?_⟩
   ·rw [(Fr.put_get hput).1,if_pos hd,p1];exact ⟨rfl,(Fr.put_get hput).2 d hd⟩
   ·rcases hv with ⟨q3,q4⟩|⟨q3,q4,q5⟩
    ·exact .inl ⟨by rw [eO ag];exact q3,q4⟩
    ·exact .inr ⟨by rw [eO ag];exact q3,by rw [pa (mX ag)];exact q4,q5⟩
 ·rw [eU,(I.psub q (n5 q hq)).2];simp [hnd q hq]
 ·rcases I.pall q hq with q1|q1
  ·rcases n4 q q1 with rfl|q1
   ·exact .inr bitp
   ·exact .inl q1
  ·exact .inr (bit' q1)
 ·rcases bit hb with hb|hb
  ·exact bit' (I.dclo q hq hb k hk)
  ·have hpm:q.2.1=p.2.1:=by
    obtain ⟨qi,qm,qo⟩:=q;obtain ⟨pi,pm,po⟩:=p;simp only at hb;subst hb;exact (S.one _ _ _ _ _ hq (I.psub _ n3).1).1
   rw [hpm] at hk;exact bit' (mH n2 hk)
def Jo (ts:T V):List Nat→T V
 | []=>ts
 | d::r=>(Jo ts r).del d
theorem xQ {ts:T V}:∀(l:List Nat) (t:Nat),(Jo ts l).get t=if t∈l then none else ts.get t
 | [],t=>by simp [Jo]
 | d::r,t=>by
  simp only [Jo,T.get_del,xQ r t,aW]
  by_cases h:t=d
  ·simp [h]
  ·simp [h]
theorem wG {a:Act} {w:World} {listed:Array Bool} {ps:List Pn} {done:Nat} {rd:List (Nat×Oper×V)} {fr:Fr} {h:H} (I:Inv E ρ ih ops ps0 μ a w listed ps done rd fr h) :
  ∃frr,FR ρ μ frr a∧frr.nt=fr.nt∧frr.mks=fr.mks∧frr.fn=fr.fn∧frr.rnd=fr.rnd∧∀t,(∀j m o,(j,m,o)∈ps0→Nat.testBit done j=true→¬Dn listed j→o.dst≠some t)→frr.ts.get t=fr.ts.get t:=by
 let L:=ps0.filterMap fun p=>if Nat.testBit done p.1=true∧¬Dn listed p.1 then p.2.2.dst else none
 have hL:∀t,t∈L↔∃j m o,(j,m,o)∈ps0∧Nat.testBit done j=true∧¬Dn listed j∧o.dst=some t:=by
  intro t;simp only [L,List.mem_filterMap]
  constructor
  ·rintro ⟨⟨j,m,o⟩,hp,hc⟩
   split at hc
   ·rename_i hcond;exact ⟨j,m,o,hp,hcond.1,hcond.2,hc⟩
   ·cases hc
  ·rintro ⟨j,m,o,hp,h1,h2,h3⟩
   exact ⟨(j,m,o),hp,by rw [if_pos ⟨h1,h2⟩];exact h3⟩
 refine ⟨{fr with ts:=Jo fr.ts L},⟨fun t v hv=>?_,I.size,I.defs⟩,rfl,rfl,rfl,rfl,fun t ht=>?_⟩
 ·simp only [xQ] at hv
  split at hv
  ·cases hv
  ·rename_i hn;exact I.tmps t v hv fun j m o hj hb hl he=>hn ((hL t).2 ⟨j,m,o,hj,hb,hl,he⟩)
 ·simp only [xQ];rw [if_neg];rw [hL]
  rintro ⟨j,m,o,hj,hb,hl,he⟩
  exact ht j m o hj hb hl he
theorem Hb {l:Array Bool} {i:Nat} (h:l.getD i false=true):l.getD i true=true:=by
 unfold Array.getD at h ⊢
 split at h
 ·rename_i hi;rw [dif_pos hi];exact h
 ·cases h
theorem pG (S:Stat ops ps0) {listed:Array Bool} (hclo:∀p∈ps0,Dn listed p.1→∀k,Nat.testBit p.2.1 k=true→Dn listed k) {p:Pn} (hp:p∈ps0) (hr:p.1∈Region.ready .any ops listed):¬Dn listed p.1∧∀k,Nat.testBit p.2.1 k=true→Dn listed k:=by
 obtain ⟨h0,o,ho,hall⟩:=mem_ready.1 hr;have hop:=S.op p.1 p.2.1 p.2.2 hp;rw [ho] at hop;injection hop with hop;subst hop
 refine ⟨fun q=>?_,fun k hk=>?_⟩
 ·unfold Dn at q;rw [Hb q] at h0;cases h0
 ·obtain ⟨e,he,hb,h⟩:=S.bits p hp k hk;have hd:=hall e he hb
  rcases h with rfl|⟨m,o,hm,hk'⟩
  ·exact hd
  ·exact hclo _ hm hd k hk'
theorem kp {listed:Array Bool} {i j:Nat} (hi:i<listed.size):Dn (listed.setIfInBounds i true) j↔j=i∨Dn listed j:=by
 unfold Dn
 by_cases h:i=j
 ·subst h;simp [hi]
 ·rw [getD_set_ne false h]
  constructor
  ·exact .inr
  ·rintro (q|q)
   ·exact absurd q.symm h
   ·exact q
theorem BA {a:Act} {dst:Option Nat} {X:Value} {t:Nat} (h:dst≠some t):(a.put dst X).tmps[t]?=a.tmps[t]?:=by
 cases dst with
 | none=>rfl
 | some d =>
  have:d≠t:=fun e=>h (by rw [e]);simp [Act.put,Array.getElem?_setIfInBounds_ne this]
theorem BC {a:Act} {d:Nat} {X:Value} (h:d<a.tmps.size):(a.put (some d) X).tmps[d]?=some X:=by
 simp [Act.put,h]
theorem BB {a:Act} {dst:Option Nat} {X:Value}:(a.put dst X).tmps.size=a.tmps.size:=by cases dst<;>simp [Act.put]
theorem wJ {a:Act} {dst:Option Nat} {X:Value}:(a.put dst X).defers=a.defers:=by cases dst<;>rfl
theorem Cd (hE:EnvOk P E) (hp:Plain ρ) (ok:RecOk P E ρ ih) (S:Stat ops ps0) {a:Act} {w:World} {listed:Array Bool} {ps:List Pn} {done:Nat} {rd:List (Nat×Oper×V)} {fr:Fr} {h:H} (I:Inv E ρ ih ops ps0 μ a w listed ps done rd fr h)
  {i:Nat} (hr:i∈Region.ready .any ops listed) (hd:Nat.testBit done i=true) (b:Fb) (k:List Item) (cs:List Frame) (rest:List Nat) :
  ∃μ' a' w',Grows μ w μ' w'∧Inv E ρ ih ops ps0 μ' a' w' (listed.setIfInBounds i true) ps done rd fr h ∧
   Steps P (lone (FrR b a (.inRegion ops (i::rest)::k)) cs w) (lone (FrR b a' (.inRegion ops rest::k)) cs w'):=by
 obtain ⟨h0,o,ho,hall⟩:=mem_ready.1 hr;obtain ⟨m,hmem⟩:=S.mem i o ho;obtain ⟨r1,r2⟩:=pG S I.clo hmem hr;have hi:i<listed.size:=by rw [I.sz];exact (Array.getElem?_eq_some_iff.1 ho).1
 obtain ⟨e1,v,e2,e3⟩:=I.pend i m o hmem hd r1;obtain ⟨frr,f1,f2,f3,f4,f5,f6⟩:=wG I
 have ag:iL frr fr (looks ops.toList o):=fun t ht=>f6 t fun j m' o' hj hb hl he=>by
  rcases S.look (i,m,o) (j,m',o') t hmem hj he ht with this|⟨q,_⟩
  ·exact hl (r2 j this)
  ·have:=(I.pend j m' o' hj hb hl).1;rw [te q] at this;cases this
 have fin:∀μ' w' X,Grows μ w μ' w'→HR E ρ μ' h w'→conc ρ μ' v=some X→Inv E ρ ih ops ps0 μ' (a.put o.dst X) w' (listed.setIfInBounds i true) ps done rd fr h:=by
  intro μ' w' X g1 g2 g3
  refine ⟨by simpa using I.sz,g2,fun t u hu hpend=>?_,by rw [BB];exact I.size,by rw [wJ];exact I.defs.le g1.le,fun j hj=>?_,fun j m' o' hj hb hl=>?_,fun p hp' hl k' hk=>?_,I.psub,I.pall,I.dclo⟩
  ·by_cases ht:o.dst=some t
   ·obtain ⟨e4,e5⟩:=e2 t ht;rw [hu] at e4;injection e4 with e4;subst e4;exact ⟨X,g3,by rw [ht];exact BC (by rw [I.size];exact e5)⟩
   ·obtain ⟨Y,y1,y2⟩:=I.tmps t u hu fun j m' o' hj hb hl he=>by
     by_cases hji:j=i
     ·subst hji;obtain ⟨_,rfl⟩:=S.one _ _ _ _ _ hj hmem;exact ht he
     ·exact hpend j m' o' hj hb (fun q=>(by
       rcases (kp hi).1 q with q|q
       ·exact hji q
       ·exact hl q)) he
    exact ⟨Y,eY g1.le _ _ y1,by rw [BA ht];exact y2⟩
  ·rcases (kp hi).1 hj with rfl|hj
   ·exact hd
   ·exact I.sub j hj
  ·exact I.pend j m' o' hj hb fun q=>hl ((kp hi).2 (.inr q))
  ·rcases (kp hi).1 hl with hl|hl
   ·obtain ⟨pi,pm,po⟩:=p;simp only at hl;subst hl;obtain ⟨rfl,rfl⟩:=S.one _ _ _ _ _ hp' hmem;exact (kp hi).2 (.inr (r2 k' hk))
   ·exact (kp hi).2 (.inr (I.clo p hp' hl k' hk))
 rcases e3 with ⟨q1,rfl⟩|⟨q1,q2,_⟩
 ·refine ⟨μ,a.put o.dst undef,w,Grows.refl _ _,fin μ w undef (Grows.refl _ _) I.hr (by simp [un,conc,cE,undef]),.one ?_⟩
  have:=sy (P:=P) (b:=b) (a:=a) (k:=k) (cs:=cs) (w:=w) (ops:=ops) (i:=i) (rest:=rest) (by
   rw [ho];have:=jq f1 (by rw [eO ag];exact q1)
   simpa using this)
  rw [ho] at this;exact this
 ·have hv:opV E ih frr h o=some [(v,h)]:=by rw [pa (mX ag)];exact q2
  obtain ⟨v',h',hm,μ',X,w',g1,g2,g3,g4⟩:=ul hE hp ok f1 I.hr hv (FrR b a (.inRegion ops (i::rest)::k)) cs;rw [aN] at hm;obtain ⟨rfl,rfl⟩:=Prod.mk.inj hm;exact ⟨μ',_,w',g1,fin μ' w' X g1 g2 g3,uE ho (jq f1 (by rw [eO ag];exact q1)) (um hv) g4⟩
theorem vY {m:Nat} {fr:Fr} {h:H}:∀{rd:List (Nat×Oper×V)},g0 E ih m fr h rd=true→∀k o v,(k,o,v)∈rd→Nat.testBit m k=true∨sI E ih v fr o h=true
 | [],_,k,o,v,hm=>by cases hm
 | (k',o',v')::r,hs,k,o,v,hm=>by
  simp only [g0,aU] at hs
  rcases aW.1 hm with e|hm
  ·injection e with e1 e;injection e with e2 e3;rw [e1,e2,e3];simpa using hs.1
  ·exact vY hs.2 k o v hm
theorem zB (o:Oper):iB E o=true∨ot E o=.pure∨(ot E o=.read∧jP E o=true):=by
 unfold iB jP
 cases ot E o<;>simp
theorem JJ (hE:EnvOk P E) (hp:Plain ρ) (ok:RecOk P E ρ ih) (S:Stat ops ps0) {a:Act} {w:World} {listed:Array Bool} {ps:List Pn} {done:Nat} {rd:List (Nat×Oper×V)} {fr:Fr} {h:H} (I:Inv E ρ ih ops ps0 μ a w listed ps done rd fr h)
  {p:Pn} {rest:List Pn} (hr:p.1∈Region.ready .any ops listed) (hps:p∈ps) (hall:∀q∈ps,q=p∨q∈rest) (hsub:∀q∈rest,q∈ps) (hnd:∀q∈rest,q.1≠p.1) (b:Fb) (k:List Item) (cs:List Frame) (rs:List Nat)
  {n:Nat} {outs:List (Fr×H)} (hrun:(match dS fr ops.toList p.2.2 with
   | none=>none
   | some false=>(match fr.put p.2.2.dst un with
    | some fr'=>kw E ih ops.toList n rest (ee done p.1) rd fr' h
    | none=>none)
   | some true=>ji (opV E ih fr h p.2.2) fun y=>bif g0 E ih p.2.1 fr y.2 rd then (match fr.put p.2.2.dst y.1 with
    | some fr'=>kw E ih ops.toList n rest (ee done p.1) rd fr' y.2
    | none=>none) else none)=some outs) :
  ∃outs' fr' h',kw E ih ops.toList n rest (ee done p.1) rd fr' h'=some outs'∧(∀x∈outs',x∈outs)∧fr'.fn=fr.fn∧fr'.rnd=fr.rnd∧fr'.nt=fr.nt ∧
  ∃μ' a' w',Grows μ w μ' w'∧Inv E ρ ih ops ps0 μ' a' w' (listed.setIfInBounds p.1 true) rest (ee done p.1) rd fr' h' ∧
   Steps P (lone (FrR b a (.inRegion ops (p.1::rs)::k)) cs w) (lone (FrR b a' (.inRegion ops rs::k)) cs w'):=by
 have hmem:=(I.psub p hps).1;have ho:=S.op p.1 p.2.1 p.2.2 hmem;obtain ⟨r1,r2⟩:=pG S I.clo hmem hr;have hi:p.1<listed.size:=by rw [I.sz];exact (Array.getElem?_eq_some_iff.1 ho).1
 have hw:ip p.2.1 done=true:=yH fun k hk=>I.sub k (r2 k hk);obtain ⟨frr,f1,f2,f3,f4,f5,f6⟩:=wG I
 have ag:iL frr fr (looks ops.toList p.2.2):=fun t ht=>f6 t fun j m' o' hj hb hl he=>by
  rcases S.look p (j,m',o') t hmem hj he ht with this|⟨q,_⟩
  ·exact hl (r2 j this)
  ·have:=(I.pend j m' o' hj hb hl).1;rw [te q] at this;cases this
 have bit:∀{k},Nat.testBit (ee done p.1) k=true→Nat.testBit done k=true∨k=p.1:=fun hk=>by
  rw [eU] at hk;simpa using hk
 have bit':∀{k},Nat.testBit done k=true→Nat.testBit (ee done p.1) k=true:=fun hk=>by rw [eU,hk];rfl
 have bitp:Nat.testBit (ee done p.1) p.1=true:=by rw [eU];simp
 have fin:∀μ' w' X v fr' h',fr.put p.2.2.dst v=some fr'→Grows μ w μ' w'→HR E ρ μ' h' w'→conc ρ μ' v=some X→(h'=h∨g0 E ih p.2.1 fr h' rd=true) →
   Inv E ρ ih ops ps0 μ' (a.put p.2.2.dst X) w' (listed.setIfInBounds p.1 true) rest (ee done p.1) rd fr' h':=by
  intro μ' w' X v fr' h' hput g1 g2 g3 hst;obtain ⟨p1,p2,p3,p4⟩:=Fr.put_same hput
  refine ⟨by simpa using I.sz,g2,fun t u hu hpend=>?_,by rw [BB,p1];exact I.size,by rw [wJ,p2];exact I.defs.le g1.le,fun j hj=>?_,fun j m o hj hb hl=>?_,fun q hq hl k' hk=>?_,fun q hq=>⟨(I.psub q (hsub q hq)).1,?_⟩,fun q hq=>?_,fun q hq hb k' hk=>?_⟩
  ·rw [(Fr.put_get hput).1] at hu
   by_cases ht:p.2.2.dst=some t
   ·rw [if_pos ht] at hu;injection hu with hu;subst hu;exact ⟨X,g3,by rw [ht];exact BC (by rw [I.size];exact (Fr.put_get hput).2 t ht)⟩
   ·rw [if_neg ht] at hu
    obtain ⟨Y,y1,y2⟩:=I.tmps t u hu fun j m o hj hb hl=>hpend j m o hj (bit' hb) (fun q=>by
     rcases (kp hi).1 q with rfl|q
     ·rw [(I.psub p hps).2] at hb;cases hb
     ·exact hl q)
    exact ⟨Y,eY g1.le _ _ y1,by rw [BA ht];exact y2⟩
  ·rcases (kp hi).1 hj with rfl|hj
   ·exact bitp
   ·exact bit' (I.sub j hj)
  ·have hl':¬Dn listed j:=fun q=>hl ((kp hi).2 (.inr q));have hji:j≠p.1:=fun q=>hl ((kp hi).2 (.inl q));have hb':=(bit hb).resolve_right hji;obtain ⟨q1,u,q2,q3⟩:=I.pend j m o hj hb' hl';have agd:=yh S I hps hput (q:=(j,m,o)) hj hb' (fun _ q=>hl' (r2 j q))
   refine ⟨q1,u,fun d hd=>?_,?_⟩
   ·rw [zy S I hps hput (q:=(j,m,o)) hj hb' hd,p1];exact q2 d hd
   ·rcases q3 with ⟨q3,q4⟩|⟨q3,q4,q5⟩
    ·exact .inl ⟨by rw [eO agd];exact q3,q4⟩
    ·refine .inr ⟨by rw [eO agd];exact q3,?_,q5⟩;rw [pa (mX agd)]
     rcases hst with rfl|hst
     ·exact q4
     ·rcases zB (E:=E) o with hc|hc|⟨hc,hc2⟩
      ·rw [q1] at hc;cases hc
      ·obtain ⟨v',e1,e2⟩:=BI hc q4;have:v'=u:=by injection e1 with e1;exact (Prod.mk.inj e1).1.symm
       rw [←this];exact e2 h'
      ·rcases vY hst j o u (q5 hc2) with hbit|hrk
       ·exact absurd (r2 j hbit) hl'
       ·unfold sI at hrk
        split at hrk
        ·rename_i v' h2 hv';have:=V.beq_eq _ _ hrk;subst this;obtain ⟨v2,e2⟩:=BH hc hv';injection e2 with e2;obtain ⟨rfl,rfl⟩:=Prod.mk.inj e2;exact hv'
        ·cases hrk
  ·rcases (kp hi).1 hl with hl|hl
   ·have:q.2.1=p.2.1:=by
     obtain ⟨qi,qm,qo⟩:=q;obtain ⟨pi,pm,po⟩:=p;simp only at hl;subst hl;exact (S.one _ _ _ _ _ hq hmem).1
    rw [this] at hk;exact (kp hi).2 (.inr (r2 k' hk))
   ·exact (kp hi).2 (.inr (I.clo q hq hl k' hk))
  ·rw [eU,(I.psub q (hsub q hq)).2];simp [hnd q hq]
  ·rcases I.pall q hq with q1|q1
   ·rcases hall q q1 with rfl|q1
    ·exact .inr bitp
    ·exact .inl q1
   ·exact .inr (bit' q1)
  ·rcases bit hb with hb|hb
   ·exact bit' (I.dclo q hq hb k' hk)
   ·have:q.2.1=p.2.1:=by
     obtain ⟨qi,qm,qo⟩:=q;obtain ⟨pi,pm,po⟩:=p;simp only at hb;subst hb;exact (S.one _ _ _ _ _ hq hmem).1
    rw [this] at hk;exact bit' (mH hw hk)
 split at hrun
 ·cases hrun
 ·rename_i hwant
  split at hrun
  ·rename_i fr' hput;obtain ⟨p1,p2,p3,p4⟩:=Fr.put_same hput;refine ⟨outs,fr',h,hrun,fun x hx=>hx,p3,p4,p1,μ,a.put p.2.2.dst undef,w,Grows.refl _ _,fin μ w undef un fr' h hput (Grows.refl _ _) I.hr (by simp [un,conc,cE,undef]) (.inl rfl),.one ?_⟩
   have:=sy (P:=P) (b:=b) (a:=a) (k:=k) (cs:=cs) (w:=w) (ops:=ops) (i:=p.1) (rest:=rs) (by
    rw [ho];have:=jq f1 (by rw [eO ag];exact hwant)
    simpa using this)
   rw [ho] at this;exact this
  ·cases hrun
 ·rename_i hwant;obtain ⟨l,hl,hcont⟩:=gA hrun;have hv:opV E ih frr h p.2.2=some l:=by rw [pa (mX ag)];exact hl
  obtain ⟨v',h',hm,μ',X,w',g1,g2,g3,g4⟩:=ul hE hp ok f1 I.hr hv (FrR b a (.inRegion ops (p.1::rs)::k)) cs;obtain ⟨o1,hc,hsub'⟩:=hcont _ hm;simp only at hc;obtain ⟨hst,hc⟩:=cI hc
  split at hc
  ·rename_i fr' hput;obtain ⟨p1,p2,p3,p4⟩:=Fr.put_same hput;exact ⟨o1,fr',h',hc,hsub',p3,p4,p1,μ',_,w',g1,fin μ' w' X v' fr' h' hput g1 g2 g3 (.inr hst),uE ho (jq f1 (by rw [eO ag];exact hwant)) (um hv) g4⟩
  ·cases hc
end
theorem wN {E:Env} {done:Nat}:∀{ps:List Pn} {p:Pn} {rest:List Pn},kx E done ps=some (p,rest)→ps.Perm (p::rest)
 | [],_,_,h=>by cases h
 | q::r,p,rest,h=>by
  simp only [kx] at h
  cases hc:(!(iB E q.2.2)&&ip q.2.1 done) with
  | true =>
   rw [hc,cond_true] at h;injection h with h;obtain ⟨rfl,rfl⟩:=Prod.mk.inj h;exact List.Perm.refl _
  | false =>
   rw [hc,cond_false] at h
   split at h
   ·cases h
   ·rename_i p' r' hp;injection h with h;obtain ⟨rfl,rfl⟩:=Prod.mk.inj h;exact ((wN hp).cons q).trans (List.Perm.swap _ _ _)
theorem wQ {E:Env} {done:Nat}:∀{ps:List Pn} {p:Pn} {rest:List Pn},(p,rest)∈jY E done ps→ps.Perm (p::rest)
 | [],_,_,h=>by cases h
 | q::r,p,rest,h=>by
  simp only [jY,bN] at h
  rcases h with h|h
  ·cases hc:(iB E q.2.2&&ip q.2.1 done) with
   | false=>rw [hc] at h;cases h
   | true =>
    rw [hc,cond_true,aN] at h;obtain ⟨rfl,rfl⟩:=Prod.mk.inj h;exact List.Perm.refl _
  ·obtain ⟨⟨p',r'⟩,hm,he⟩:=bP.1 h;obtain ⟨rfl,rfl⟩:=Prod.mk.inj he;exact ((wQ hm).cons q).trans (List.Perm.swap _ _ _)
theorem rV {ps rest:List Pn} {p:Pn} (h:ps.Perm (p::rest)) (hn:(ps.map (·.1)).Nodup):(rest.map (·.1)).Nodup∧∀q∈rest,q.1≠p.1:=by
 have:=(h.map (·.1)).nodup_iff.1 hn;rw [bI,List.nodup_cons] at this;exact ⟨this.2,fun q hq e=>this.1 (bP.2 ⟨q,hq,e⟩)⟩
def tK (listed:Array Bool) (n:Nat):Nat:=((List.range n).filter fun j => !listed.getD j false).length
theorem wW {listed:Array Bool} {n:Nat} (h:tK listed n=0) (j:Nat) (hj:j<n):Dn listed j:=by
 unfold tK at h;have h2:=List.eq_nil_of_length_eq_zero h;rw [List.filter_eq_nil_iff] at h2;have:=h2 j (List.mem_range.2 hj)
 cases hd:listed.getD j false with
 | true=>exact hd
 | false=>rw [hd] at this;exact absurd rfl this
theorem filter_lt {α:Type} {p q:α→Bool}:∀{l:List α},(∀x∈l,q x=true→p x=true)→(∃x∈l,p x=true∧q x=false)→(l.filter q).length<(l.filter p).length
 | [],_,h=>by obtain ⟨x,hx,_⟩:=h;cases hx
 | x::l,hpq,h=>by
  have hle:(l.filter q).length≤(l.filter p).length:=by
   clear h
   induction l with
   | nil=>simp
   | cons y l ih =>
    have:=ih (fun z hz=>hpq z (by
     rcases aW.1 hz with rfl|hz
     ·simp
     ·exact aM _ (aM _ hz)))
    have hy:=hpq y (by simp);simp only [List.filter_cons]
    cases hq:q y with
    | true=>rw [hy hq];simpa using this
    | false=>cases hp:p y<;>simp<;>omega
  simp only [List.filter_cons];obtain ⟨y,hy,h1,h2⟩:=h
  rcases aW.1 hy with rfl|hy
  ·rw [h1,h2];simp;omega
  ·have:=filter_lt (l:=l) (fun z hz=>hpq z (aM _ hz)) ⟨y,hy,h1,h2⟩;have hx:=hpq x (by simp)
   cases hq:q x with
   | true=>rw [hx hq];simpa using this
   | false=>cases hp:p x<;>simp<;>omega
theorem GV {listed:Array Bool} {n i:Nat} (hi:i<n) (hs:listed.size=n) (hl:¬Dn listed i):tK (listed.setIfInBounds i true) n<tK listed n:=by
 unfold tK
 refine filter_lt (fun j _ hj=>?_) ⟨i,List.mem_range.2 hi,by cases hd:listed.getD i false with|false=>rfl|true=>exact absurd hd hl,?_⟩
 ·by_cases h:i=j
  ·subst h;simp [hs,hi] at hj
  ·rw [getD_set_ne false h] at hj;exact hj
 ·have:Dn (listed.setIfInBounds i true) i:=(kp (by omega)).2 (.inl rfl);simpa using this
section
variable {P : Program} {E : Env} {ρ : Rho} {ih : Rec} {ops : Array Oper} {ps0 : List Pn}
theorem yg (S:Stat ops ps0) {listed:Array Bool} (hs:listed.size=ops.size) (hr:Region.ready .any ops listed=[]):∀(n j:Nat),j<n→j<ops.size→Dn listed j
 | 0,j,h,_=>by omega
 | n+1,j,h,hj=>by
  rcases Nat.lt_or_ge j n with h'|h'
  ·exact yg S hs hr n j h' hj
  ·cases hd:listed.getD j false with
   | true=>exact hd
   | false =>
    exfalso
    have ho:ops[j]?=some ops[j]:=Array.getElem?_eq_getElem hj;obtain ⟨m,hm⟩:=S.mem j _ ho
    have:j∈Region.ready .any ops listed:=by
     rw [mem_ready]
     refine ⟨?_,_,ho,fun e he hb=>?_⟩
     ·have hjl:j<listed.size:=by omega
      unfold Array.getD at hd ⊢;rw [dif_pos hjl] at hd ⊢;exact hd
     ·have:=S.back _ hm e he hb;simp only at this;exact yg S hs hr n e.on (by omega) (by omega)
    rw [hr] at this;cases this
theorem Db (hE:EnvOk P E) (hp:Plain ρ) (ok:RecOk P E ρ ih) (S:Stat ops ps0):∀(s n fuel t:Nat),n+fuel≤s→∀(μ:Mu) (a:Act) (w:World) (listed:Array Bool) (ps:List Pn) (done:Nat) (rd:List (Nat×Oper×V)) (fr:Fr) (h:H) (outs:List (Fr×H)),
  Inv E ρ ih ops ps0 μ a w listed ps done rd fr h→(ps.map (·.1)).Nodup→tK listed ops.size≤fuel→kw E ih ops.toList n ps done rd fr h=some outs→∀(b:Fb) (k:List Item) (cs:List Frame),
  ∃fr' h',(fr',h')∈outs∧∃μ' a' w',Grows μ w μ' w'∧HR E ρ μ' h' w'∧FR ρ μ' fr' a'∧fr'.fn=fr.fn∧fr'.rnd=fr.rnd∧fr'.nt=fr.nt ∧
   Steps P (lone (FrR b a (.inRegion ops (Region.linearise.go .any ops fuel t listed [])::k)) cs w) (lone (FrR b a' k) cs w'):=by
 intro s
 induction s with
 | zero =>
  intro n fuel t hs μ a w listed ps done rd fr h outs I hnd hleft hrun b k cs;have hf:fuel=0:=by omega
  have hn:n=0:=by omega
  subst hf hn;have hall:∀j,j<ops.size→Dn listed j:=fun j hj=>wW (by omega) j hj
  have hps:ps=[]:=by
   cases ps with
   | nil=>rfl
   | cons p r =>
    obtain ⟨h1,h2⟩:=I.psub p (by simp);have ho:=S.op _ _ _ h1;have:=I.sub _ (hall p.1 (Array.getElem?_eq_some_iff.1 ho).1);rw [h2] at this;cases this
  subst hps;simp only [kw] at hrun;obtain rfl:=cT hrun;refine ⟨fr,h,aN.2 rfl,μ,a,w,Grows.refl _ _,I.hr,⟨fun t' v hv=>I.tmps t' v hv fun j m o hj hb hl=>?_,I.size,I.defs⟩,rfl,rfl,rfl,.one oC⟩;have ho:=S.op _ _ _ hj;exact absurd (hall j (Array.getElem?_eq_some_iff.1 ho).1) hl
 | succ s IH =>
  intro n fuel t hs μ a w listed ps done rd fr h outs I hnd hleft hrun b k cs
  cases hpick:kx E done ps with
  | some x =>
   obtain ⟨p,rest⟩:=x;have hperm:=wN hpick;obtain ⟨hn1,hn2⟩:=rV hperm hnd;have hne:ps≠[]:=by rintro rfl;cases hpick
   cases n with
   | zero =>
    cases ps with
    | nil=>exact absurd rfl hne
    | cons q r=>simp [kw] at hrun
   | succ n =>
    cases ps with
    | nil=>exact absurd rfl hne
    | cons q r =>
    simp only [kw,hpick] at hrun
    split at hrun
    ·cases hrun
    ·rename_i hw
     split at hrun
     ·rename_i fr1 hput;obtain ⟨p1,p2,p3,p4⟩:=Fr.put_same hput;obtain ⟨fr',h',hm,μ',a',w',g1,g2,g3,g4,g5,g6,g7⟩:=IH n fuel t (by omega) μ a w listed rest _ rd fr1 h outs (ahead S I hpick hput (fun x hx=>hx) (.inl ⟨hw,rfl⟩) hn2) hn1 hleft hrun b k cs;exact ⟨fr',h',hm,μ',a',w',g1,g2,g3,g4.trans p3,g5.trans p4,g6.trans p1,g7⟩
     ·cases hrun
    ·rename_i hw
     split at hrun
     ·rename_i v h2 hv
      have hheap:opV E ih fr h p.2.2=some [(v,h)]:=by
       rcases zB (E:=E) p.2.2 with hc|hc|⟨hc,_⟩
       ·rw [(sK hpick).1] at hc;cases hc
       ·obtain ⟨v',e1,_⟩:=BI hc hv;injection e1 with e1;obtain ⟨rfl,rfl⟩:=Prod.mk.inj e1;exact hv
       ·obtain ⟨v',e1⟩:=BH hc hv;injection e1 with e1;obtain ⟨rfl,rfl⟩:=Prod.mk.inj e1;exact hv
      split at hrun
      ·rename_i fr1 hput;obtain ⟨p1,p2,p3,p4⟩:=Fr.put_same hput
       obtain ⟨fr',h',hm,μ',a',w',g1,g2,g3,g4,g5,g6,g7⟩:=IH n fuel t (by omega) μ a w listed rest _ _ fr1 h outs
        (ahead S I hpick hput (rd':=bif jP E p.2.2 then (p.1,p.2.2,v)::rd else rd) (fun x hx=>by cases jP E p.2.2<;>simp [hx]) (.inr ⟨hw,hheap,fun hr=>by rw [hr];simp⟩) hn2) hn1 hleft hrun b k cs
       exact ⟨fr',h',hm,μ',a',w',g1,g2,g3,g4.trans p3,g5.trans p4,g6.trans p1,g7⟩
      ·cases hrun
     ·cases hrun
  | none =>
   have done':(∀j,j<ops.size→Dn listed j)→Region.linearise.go .any ops fuel t listed []=[]→∃fr' h',(fr',h')∈outs∧∃μ' a' w',Grows μ w μ' w'∧HR E ρ μ' h' w'∧FR ρ μ' fr' a'∧fr'.fn=fr.fn∧fr'.rnd=fr.rnd∧fr'.nt=fr.nt ∧
     Steps P (lone (FrR b a (.inRegion ops (Region.linearise.go .any ops fuel t listed [])::k)) cs w) (lone (FrR b a' k) cs w'):=by
    intro hall hnil
    have hps:ps=[]:=by
     cases ps with
     | nil=>rfl
     | cons p r =>
      obtain ⟨h1,h2⟩:=I.psub p (by simp);have ho:=S.op _ _ _ h1;have:=I.sub _ (hall p.1 (Array.getElem?_eq_some_iff.1 ho).1);rw [h2] at this;cases this
    subst hps;have hrun':fQ (fr,h)=some outs:=by cases n<;>exact hrun
    obtain rfl:=cT hrun';rw [hnil];refine ⟨fr,h,aN.2 rfl,μ,a,w,Grows.refl _ _,I.hr,⟨fun t' v hv=>I.tmps t' v hv fun j m o hj hb hl=>?_,I.size,I.defs⟩,rfl,rfl,rfl,.one oC⟩;have ho:=S.op _ _ _ hj;exact absurd (hall j (Array.getElem?_eq_some_iff.1 ho).1) hl
   cases fuel with
   | zero=>exact done' (fun j hj=>wW (by omega) j hj) rfl
   | succ fuel =>
    cases hi:(Region.ready .any ops listed)[t % (Region.ready .any ops listed).length]? with
    | none =>
     have hnil:Region.ready .any ops listed=[]:=by
      cases hr:Region.ready .any ops listed with
      | nil=>rfl
      | cons x xs =>
       rw [hr] at hi;have hlt:t % (x::xs).length<(x::xs).length:=Nat.mod_lt _ (by simp);rw [List.getElem?_eq_getElem hlt] at hi
       cases hi
     refine done' (fun j hj=>yg S I.sz hnil (j+1) j (by omega) hj) ?_;simp only [Region.linearise.go]
     change (match (Region.ready .any ops listed)[t % (Region.ready .any ops listed).length]? with
      | some i=>Region.linearise.go .any ops fuel (t / (Region.ready .any ops listed).length) (listed.setIfInBounds i true) [i]
      | none=>[].reverse)=[]
     rw [hi];rfl
    | some i =>
     have hgo:Region.linearise.go .any ops (fuel+1) t listed []=i::Region.linearise.go .any ops fuel (t / (Region.ready .any ops listed).length) (listed.setIfInBounds i true) []:=by
      simp only [Region.linearise.go]
      change (match (Region.ready .any ops listed)[t % (Region.ready .any ops listed).length]? with
       | some i=>Region.linearise.go .any ops fuel (t / (Region.ready .any ops listed).length) (listed.setIfInBounds i true) [i]
       | none=>[].reverse)=_
      rw [hi];simp only;rw [linearise_go_acc]
      rfl
     rw [hgo];have hr:i∈Region.ready .any ops listed:=bR hi;obtain ⟨h0,o,ho,_⟩:=mem_ready.1 hr;obtain ⟨m,hmem⟩:=S.mem i o ho;obtain ⟨r1,r2⟩:=pG S I.clo hmem hr;have hisz:i<ops.size:=(Array.getElem?_eq_some_iff.1 ho).1
     have hleft':tK (listed.setIfInBounds i true) ops.size≤fuel:=by
      have:=GV hisz I.sz r1;omega
     cases hd:Nat.testBit done i with
     | true =>
      obtain ⟨μ1,a1,w1,q1,q2,q3⟩:=Cd hE hp ok S I hr hd b k cs _;obtain ⟨fr',h',hm,μ',a',w',g1,g2,g3,g4,g5,g6,g7⟩:=IH n fuel _ (by omega) μ1 a1 w1 _ ps done rd fr h outs q2 hnd hleft' hrun b k cs;exact ⟨fr',h',hm,μ',a',w',q1.trans g1,g2,g3,g4,g5,g6,q3.trans g7⟩
     | false =>
      have hps:(i,m,o)∈ps:=by
       rcases I.pall _ hmem with q|q
       ·exact q
       ·simp only at q;rw [hd] at q;cases q
      have hw:ip m done=true:=yH fun k hk=>I.sub k (r2 k hk);have heff:=wO hpick _ hps hw;obtain ⟨rest,hrest⟩:=za hps heff hw;have hperm:=wQ hrest;obtain ⟨hn1,hn2⟩:=rV hperm hnd;obtain ⟨_,_,_,c4,c5⟩:=wP hrest
      cases n with
      | zero =>
       cases ps with
       | nil=>cases hps
       | cons q r=>simp [kw] at hrun
      | succ n =>
       cases ps with
       | nil=>cases hps
       | cons q r =>
       simp only [kw,hpick] at hrun;obtain ⟨o1,hc,hsub⟩:=qt hrun _ hrest;obtain ⟨outs',fr1,h1,e1,e2,e3,e4,e5,μ1,a1,w1,q1,q2,q3⟩:=JJ hE hp ok S I (p:=(i,m,o)) hr hps c4 c5 hn2 b k cs _ hc;obtain ⟨fr',h',hm,μ',a',w',g1,g2,g3,g4,g5,g6,g7⟩:=IH n fuel _ (by omega) μ1 a1 w1 _ rest _ rd fr1 h1 outs' q2 hn1 hleft' e1 b k cs;exact ⟨fr',h',hsub _ (e2 _ hm),μ',a',w',q1.trans g1,g2,g3,g4.trans e3,g5.trans e4,g6.trans e5,q3.trans g7⟩
theorem Co (hE:EnvOk P E) (hp:Plain ρ) (ok:RecOk P E ρ ih) {fr:Fr} {h:H} {outs:List (Fr×H)} (hrun:drawn E ih ops.toList fr h=some outs) {μ:Mu} {a:Act} {w:World} (hh:HR E ρ μ h w) (hf:FR ρ μ fr a) (id:Nat) (b:Fb) (k:List Item) (cs:List Frame) :
  ∃fr' h',(fr',h')∈outs∧∃μ' a' w',Grows μ w μ' w'∧HR E ρ μ' h' w'∧FR ρ μ' fr' a'∧fr'.fn=fr.fn∧fr'.rnd=fr.rnd∧fr'.nt=fr.nt ∧
   Steps P (lone (FrR b a (.code (.region id ops true)::k)) cs w) (lone (FrR b a' k) cs w'):=by
 unfold drawn at hrun;simp only at hrun;obtain ⟨hok,hrun⟩:=cI hrun;have S:=stat_of ops hok;have hsz:(Array.replicate ops.size false).size=ops.size:=by simp
 have hnone:∀j,¬Dn (Array.replicate ops.size false) j:=by
  intro j hj;unfold Dn Array.getD at hj
  split at hj<;>simp at hj
 obtain ⟨r,h1,h2,h3⟩:=sJ ops.toList [];rw [List.nil_append] at h1
 have nd:∀(l:List Oper) (ms:List Nat) (i:Nat),((iZ l ms i).map (·.1)).Nodup∧∀x∈(iZ l ms i).map (·.1),i≤x:=by
  intro l
  induction l with
  | nil=>intro ms i;cases ms<;>simp [iZ]
  | cons o l ih =>
   intro ms i
   cases ms with
   | nil=>simp [iZ]
   | cons m ms =>
    obtain ⟨q1,q2⟩:=ih ms (Nat.succ i);simp only [iZ,bI,List.nodup_cons];refine ⟨⟨fun hx=>by have:=q2 _ hx;omega,q1⟩,fun x hx=>?_⟩
    rcases aW.1 hx with rfl|hx
    ·exact aI _
    ·have:=q2 _ hx;omega
 have I:Inv E ρ ih ops (iZ ops.toList (pZ ops.toList []) 0) μ a w.drew (Array.replicate ops.size false) (iZ ops.toList (pZ ops.toList []) 0) 0 [] fr h:=by
  refine ⟨hsz,hh.ca rfl,fun t v hv _=>hf.tmps t v hv,hf.size,hf.defs,fun j hj=>absurd hj (hnone j),fun j m o hj hb=>by simp at hb,fun p hp hl=>absurd hl (hnone _),fun p hp=>⟨hp,by simp⟩,fun p hp=>.inl hp,fun p hp hb=>by simp at hb⟩
 have hleft:tK (Array.replicate ops.size false) ops.size≤ops.size:=by
  unfold tK;exact Nat.le_trans (List.length_filter_le _ _) (by simp)
 obtain ⟨fr',h',hm,μ',a',w',g1,g2,g3,g4,g5,g6,g7⟩:=Db hE hp ok S _ (Nat.succ ops.toList.length) ops.size (w.tape w.drawn (.order b.fn id)) (aI _) μ a w.drew _ _ 0 [] fr h outs I (nd _ _ _).1 hleft hrun b k cs;refine ⟨fr',h',hm,μ',a',w',(Grows.ca rfl rfl rfl rfl:Grows μ w μ w.drew).trans g1,g2,g3,g4,g5,g6,.head wg ?_⟩;rw [hE.mixed];simpa [Region.schedule,Region.linearise] using g7
end
end Go.Ev
