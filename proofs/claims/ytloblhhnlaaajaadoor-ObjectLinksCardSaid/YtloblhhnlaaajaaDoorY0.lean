/- The abstract values, the abstract memory and the evaluator of closed runs: definitions alone. -/
import Derived.Calls
import Derived.WalkKit
set_option linter.unusedVariables false
set_option linter.unusedSimpArgs false
set_option linter.defProp false
namespace Go.Ev
open Go
theorem aH:∀n:Nat,0+n=n:=Nat.zero_add
theorem aI:∀n:Nat,n≤n:=Nat.le_refl
theorem aJ:∀{p:Prop} [Decidable p],p→decide p=true:=decide_eq_true
theorem aK:∀{p:Prop} [Decidable p],¬p→decide p=false:=decide_eq_false
def aM:=@List.mem_cons_of_mem
def aN:=@List.mem_singleton
def aO:=@List.length_cons
def aP:=@List.getElem_mem
def aQ:=@List.length_append
def aR:=@Option.map_eq_some_iff
def aS:=@Nat.eq_of_beq_eq_true
def aT:=@List.mem_cons_self
def aU:=@Bool.and_eq_true
def aV:=@Bool.not_true
def aW:=@List.mem_cons
def aZ:=@Nat.le_of_ble_eq_true
def bg:=@Bool.eq_false_or_eq_true
def bo:=@Option.map_some
def bp:=@List.drop_succ_cons
def bv:=@List.take_length
def bz:=@Decidable.em
def bD:=@List.length_nil
def bE:=@Bool.not_false
def bF:=@Option.isSome_some
def bH:=@List.all_eq_true
def bI:=@List.map_cons
def bJ:=@List.drop_zero
def bK:=@List.drop_eq_nil_of_le
def bL:=@Nat.mul_one
def bM:=@List.flatMap_cons
def bN:=@List.mem_append
def bO:=@List.length_map
def bP:=@List.mem_map
def bQ:=@Option.bind_some
def bR:=@List.mem_of_getElem?
def bS:=@Bool.or_eq_true
def bT:=@List.take_of_length_le
def bU:=@List.drop_length
def bV:=@List.append_assoc
def bW:=@List.take_succ_eq_append_getElem
inductive T (α:Type) where
 | lf
 | nd (l:T α) (v:Option α) (r:T α)
def T.get {α:Type}:T α→Nat→Option α
 | .lf,_=>none
 | .nd l v r,k=>match k with
  | 0=>v
  | k+1=>match Nat.mod k 2 with
   | 0=>l.get (Nat.div k 2)
   | _+1=>r.get (Nat.div k 2)
def T.setF {α:Type} (x:Option α):Nat→T α→Nat→T α
 | 0,t,_=>t
 | f+1,t,k=>match t with
  | .lf=>match k with
   | 0=>.nd .lf x .lf
   | k+1=>match Nat.mod k 2 with
    | 0=>.nd (T.setF x f .lf (Nat.div k 2)) none .lf
    | _+1=>.nd .lf none (T.setF x f .lf (Nat.div k 2))
  | .nd l v r=>match k with
   | 0=>.nd l x r
   | k+1=>match Nat.mod k 2 with
    | 0=>.nd (T.setF x f l (Nat.div k 2)) v r
    | _+1=>.nd l v (T.setF x f r (Nat.div k 2))
def T.set {α:Type} (t:T α) (k:Nat) (x:α):T α:=T.setF (some x) (Nat.succ k) t k
def T.del {α:Type} (t:T α) (k:Nat):T α:=T.setF none (Nat.succ k) t k
def T.putL {α:Type}:T α→Nat→List α→T α
 | t,_,[]=>t
 | t,k,x::r=>T.putL (t.set k x) (Nat.succ k) r
inductive Cp where
 | lit (n:Nat)
 | opn (e o:Nat)
inductive V where
 | bool (b:Bool)
 | int (k:IntKind) (n:Int)
 | str (s:List UInt8)
 | ptr (b o:Nat)
 | gp (g o:Nat)
 | nilp
 | slice (b o n:Nat) (c:Cp)
 | nils
 | gsl (a:Addr) (n c:Nat)
 | map (b:Nat)
 | nilm
 | func (f:Nat) (first cap:List V)
 | yield (b:Nat)
 | nilf
 | iface (t:Nat) (v:V)
 | nili
 | agg (cs:List V)
 | tuple (vs:List V)
 | sym (i:Nat)
 deriving Inhabited
def V.one:V→Bool
 | .agg _=>false
 | .tuple _=>false
 | _=>true
def V.cells:V→List V
 | .agg cs=>cs
 | v=>[v]
mutual
def V.beq:V→V→Bool
 | .bool a,.bool b=>a==b
 | .int k a,.int k' b=>decide (k=k')&&decide (a=b)
 | .str a,.str b=>a==b
 | .ptr b o,.ptr b' o'=>Nat.beq b b'&&Nat.beq o o'
 | .gp b o,.gp b' o'=>Nat.beq b b'&&Nat.beq o o'
 | .nilp,.nilp=>true
 | .slice b o n c,.slice b' o' n' c'=>Nat.beq b b'&&Nat.beq o o'&&Nat.beq n n'&&(match c,c' with
  | .lit x,.lit y=>Nat.beq x y
  | .opn x y,.opn x' y'=>Nat.beq x x'&&Nat.beq y y'
  | _,_=>false)
 | .nils,.nils=>true
 | .gsl a n c,.gsl a' n' c'=>decide (a=a')&&Nat.beq n n'&&Nat.beq c c'
 | .map b,.map b'=>Nat.beq b b'
 | .nilm,.nilm=>true
 | .func f a c,.func f' a' c'=>Nat.beq f f'&&V.beqL a a'&&V.beqL c c'
 | .yield b,.yield b'=>Nat.beq b b'
 | .nilf,.nilf=>true
 | .iface t v,.iface t' v'=>Nat.beq t t'&&V.beq v v'
 | .nili,.nili=>true
 | .agg a,.agg b=>V.beqL a b
 | .tuple a,.tuple b=>V.beqL a b
 | .sym i,.sym j=>Nat.beq i j
 | _,_=>false
def V.beqL:List V→List V→Bool
 | [],[]=>true
 | x::xs,y::ys=>V.beq x y&&V.beqL xs ys
 | _,_=>false
end
def ez:Value→Option V
 | .bool b=>some (.bool b)
 | .int k n=>some (.int k n)
 | .string s=>some (.str s.data.toList)
 | .pointer none=>some .nilp
 | .slice none 0 0=>some .nils
 | .map none=>some .nilm
 | .nilFunc=>some .nilf
 | .nilIface=>some .nili
 | _=>none
def ofValue:Value→Option V
 | .agg cs=>(cs.toList.mapM ez).map .agg
 | .tuple vs=>(vs.toList.mapM ez).map .tuple
 | .iface t v=>(ez v).map (.iface t)
 | v=>ez v
inductive B where
 | cells (t:T V) (n:Nat) (d:List V) (elem:Nat) (kind:Nat)
 | map (es:List (V×V×Nat)) (clock:Nat)
 | mapIter (m:Option Nat) (since:Nat) (seen:List Nat) (stepped:Nat)
 | strIter (s:List UInt8) (pos:Nat)
 | loop (state:LoopState) (pending:Option Code) (fn:Nat) (ts:T V) (nt:Nat) (params:List Nat) (assign body:Code) (defers:Nat)
 | defs (taken:Bool)
structure H where
 t:T B
 bX:Nat
inductive D where
 | mark (b:Nat)
structure Fr where
 ts:T V
 nt:Nat
 mks:List D
 fn:Nat
 rnd:Option Nat
inductive Ex where
 | normal
 | exit (id:Nat)
 | ret
abbrev R (α:Type):=Option (List α)
def j9 {α β:Type} (f:α→R β):List α→R β
 | []=>some []
 | x::r=>match f x with
  | none=>none
  | some a=>match j9 f r with
   | none=>none
   | some b=>some (a++b)
def ji {α β:Type} (r:R α) (f:α→R β):R β :=
 match r with
 | none=>none
 | some l=>match l with
  | [x]=>f x
  | l=>j9 f l
def fQ {α:Type} (x:α):R α:=some [x]
structure TI where
 desc:TypeDesc
 size:Nat
 bytes:Nat
 zero:List V
 zv:V
 cmp:Bool
structure FI where
 nt:Nat
 body:Code
 res:List ResultVar
structure Env where
 tys:T TI
 fns:T FI
 meths:List (Nat×String×Nat)
 eqs:List Nat
 exts:List (Nat×Nat)
 globs:T (List V)
 sw:T FI:=.lf
 dn:List Nat:=[]
 sk:List (Nat×Nat×Nat):=[]
def TI.agg (i:TI):Bool:=match i.desc with|.struct _=>true|.array _ _=>true|_=>false
def TI.zeroV (i:TI):Option V:=some i.zv
section
variable (E : Env)
def H.new (h:H) (b:B):Nat×H:=(h.bX,{t:=h.t.set h.bX b,bX:=Nat.succ h.bX})
def H.put (h:H) (k:Nat) (b:B):H:={t:=h.t.set k b,bX:=h.bX}
def nth {α:Type}:List α→Nat→Option α
 | [],_=>none
 | x::r,k=>match k with|0=>some x|k+1=>nth r k
def eH (t:T V) (n:Nat) (d:List V) (i:Nat):Option V :=
 bif Nat.blt i n then (match t.get i with
  | some v=>some v
  | none=>match d with
   | [x]=>some x
   | d=>nth d (Nat.mod i d.length)) else none
def dT (t:T V) (n:Nat) (d:List V):Nat→Nat→Option (List V)
 | _,0=>some []
 | i,k+1=>match eH t n d i with
  | none=>none
  | some v=>match dT t n d (Nat.succ i) k with
   | none=>none
   | some r=>some (v::r)
def p6 (h:H) (ty b o:Nat):Option V :=
 match E.tys.get ty with
 | none=>none
 | some i=>match h.t.get b with
  | some (.cells t n d _ _)=>bif i.agg then (dT t n d o i.size).map .agg else eH t n d o
  | _=>none
def qE (k:Nat) (l:List V):Option (List V):=bif Nat.beq l.length k&&l.all V.one then some l else none
def rX (ty g o:Nat):Option V :=
 match E.tys.get ty with
 | none=>none
 | some i=>match E.globs.get g with
  | some cs=>bif i.agg then (qE i.size ((cs.drop o).take i.size)).map .agg else (match nth cs o with|some v=>bif v.one then some v else none|none=>none)
  | none=>none
def gZ (h:H) (b o:Nat) (vs:List V):Option H :=
 match vs with
 | []=>some h
 | vs=>match h.t.get b with
  | some (.cells t n d e k)=>bif Nat.ble (o+vs.length) n&&vs.all V.one then some (h.put b (.cells (t.putL o vs) n d e k)) else none
  | _=>none
def pB (h:H) (ty b o:Nat) (v:V):Option H :=
 match E.tys.get ty with
 | none=>none
 | some i=>bif Nat.beq v.cells.length i.size then gZ h b o v.cells else none
def row (h:H) (elem:Nat) (cs:List V) (kind:Nat):Nat×H:=h.new (.cells (T.putL .lf 0 cs) cs.length [.nilp] elem kind)
def se (cs:List V) (off:Nat) (vs:List V):List V :=
 match off,cs with
 | 0,cs=>vs++cs.drop vs.length
 | _+1,[]=>[]
 | off+1,c::r=>c::se r off vs
def cW (place:Nat→Option (Nat×Nat)) (cells:List V):List (Nat×V)→Option (List V)
 | []=>some cells
 | (i,v)::rest=>match place i with
  | none=>none
  | some (off,size) =>
   bif Nat.beq v.cells.length size then bif Nat.ble (off+v.cells.length) cells.length then cW place (se cells off v.cells) rest else none else none
def dy (t:Nat):Option Nat:=(E.tys.get t).map (·.size)
def oa (ty:Nat) (cs:List V) (off:Nat):Option V :=
 match E.tys.get ty with
 | none=>none
 | some i=>bif i.agg then some (.agg ((cs.drop off).take i.size)) else nth cs off
def gP:Sem Value→Option V
 | .pure v=>ez v
 | _=>none
def wM (h:H) (b o b' o':Nat):Option Bool :=
 bif Nat.beq b b' then some (Nat.beq o o') else
 match h.t.get b,h.t.get b' with
 | some (.cells _ _ _ _ k),some (.cells _ _ _ _ k')=>bif Nat.ble 2 k||Nat.ble 2 k' then none else some false
 | _,_=>none
def mP (d:TypeDesc) (x y:V):Option Bool :=
 match d,x,y with
 | .bool,.bool a,.bool b=>some (a==b)
 | .int _,.int k a,.int k' b=>if k=k' then some (decide (a=b)) else none
 | .string,.str a,.str b=>some (a==b)
 | _,_,_=>none
def np (g:Nat→V→V→Option Bool) (xs ys:List V):List Field→Option Bool
 | []=>some true
 | f::fs=>match f.name == "_" with
  | true=>none
  | false=>(match oa E f.type xs f.offset,oa E f.type ys f.offset with
   | some a,some b=>(match g f.type a b with
    | some true=>np g xs ys fs
    | some false=>some false
    | none=>none)
   | _,_=>none)
def qM (g:Nat→V→V→Option Bool) (e s:Nat) (xs ys:List V):List Nat→Option Bool
 | []=>some true
 | i::is=>match oa E e xs (i * s),oa E e ys (i * s) with
  | some a,some b=>(match g e a b with
   | some true=>qM g e s xs ys is
   | some false=>some false
   | none=>none)
  | _,_=>none
def eqT:Nat→Nat→V→V→Option Bool
 | 0,_,_,_=>none
 | n+1,ty,x,y=>match E.tys.get ty with
  | none=>none
  | some i=>(match i.desc,x,y with
   | .struct fs,.agg xs,.agg ys=>bif E.eqs.contains ty then np E (eqT n) xs ys fs.toList else none
   | .array m e,.agg xs,.agg ys=>bif E.eqs.contains ty then (match E.tys.get e with
    | some ei=>qM E (eqT n) e ei.size xs ys (List.range m)
    | none=>none) else none
   | d,x,y=>mP d x y)
def eqV (h:H) (ty:Nat) (x y:V):Option Bool :=
 match E.tys.get ty with
 | none=>none
 | some i =>
  match i.desc,x,y with
  | .bool,.bool a,.bool b=>some (a==b)
  | .pointer _,.nilp,.nilp=>some true
  | .pointer _,.nilp,.ptr _ _=>some false
  | .pointer _,.ptr _ _,.nilp=>some false
  | .pointer e,.ptr b o,.ptr b' o'=>match E.tys.get e with
   | some j=>bif Nat.beq j.size 0 then none else wM h b o b' o'
   | none=>none
  | .interface _,.nili,.iface _ _=>some false
  | .interface _,.iface _ _,.nili=>some false
  | .slice _,.nils,.nils=>some true
  | .slice _,.nils,.slice _ _ _ _=>some false
  | .slice _,.nils,.gsl _ _ _=>some false
  | .slice _,.gsl _ _ _,.nils=>some false
  | .slice _,.slice _ _ _ _,.nils=>some false
  | .map _ _,.nilm,.nilm=>some true
  | .map _ _,.nilm,.map _=>some false
  | .map _ _,.map _,.nilm=>some false
  | .func _ _ _,.nilf,.nilf=>some true
  | .func _ _ _,.nilf,.func _ _ _=>some false
  | .func _ _ _,.func _ _ _,.nilf=>some false
  | .struct fs,.agg xs,.agg ys=>bif E.eqs.contains ty then np E (eqT E 8) xs ys fs.toList else none
  | .array m e,.agg xs,.agg ys=>bif E.eqs.contains ty then (match E.tys.get e with
   | some ei=>qM E (eqT E 8) e ei.size xs ys (List.range m)
   | none=>none) else none
  | _,_,_=>none
def HW (op:BinOp) (a b:List UInt8):Option V :=
 match op with
 | .add=>bif Nat.ble (a.length+b.length) 9223372036854775807 then some (.str (a++b)) else none
 | .eql=>some (.bool (a==b))
 | .neq=>some (.bool !(a==b))
 | .lss=>some (.bool (Op.bytesLess a b))
 | .leq=>some (.bool (Op.bytesLess a b||a==b))
 | .gtr=>some (.bool !(Op.bytesLess a b||a==b))
 | .geq=>some (.bool !(Op.bytesLess a b))
 | _=>none
def iH:Operand→Bool
 | .const _=>true
 | _=>false
def EN (ty:Nat):Option Bool :=
 match E.tys.get ty with
 | some i=>(match i.desc with
  | .interface _=>some true
  | _=>none)
 | none=>none
def fJ (h:H) (k:Bool) (op:BinOp) (ty:Nat) (x y:V):Option V :=
 match x,y with
 | .nili,.nili=>(match op,k with
  | .eql,true=>(EN E ty).map .bool
  | .neq,true=>(EN E ty).map fun b=>.bool !b
  | _,_=>none)
 | .int k a,.int k' b=>gP (binOp op ty (.int k a) (.int k' b))
 | .str a,.str b=>HW op a b
 | x,y=>match op with
  | .eql=>(eqV E h ty x y).map .bool
  | .neq=>(eqV E h ty x y).map fun b=>.bool !b
  | _=>none
def unV (op:UnOp) (x:V):Option V :=
 match x with
 | .int k n=>gP (Op.unary op (.int k n))
 | .bool b=>gP (Op.unary op (.bool b))
 | _=>none
def JG:V→Option UInt8
 | .int .u8 n=>some (UInt8.ofNat n.toNat)
 | _=>none
def tW:List V→Option (List UInt8)
 | []=>some []
 | v::r=>match JG v with
  | none=>none
  | some c=>match tW r with
   | none=>none
   | some l=>some (c::l)
def lG (a:Addr) (k:Nat):Option (List V) :=
 match k with
 | 0=>some []
 | k=>match a.spot with
  | none=>(match E.globs.get a.block with
   | some cs=>qE k ((cs.drop a.off).take k)
   | none=>none)
  | some _=>none
def j3 (h:H) (src dst:Nat) (x:V):Option (V×H) :=
 match E.tys.get src,E.tys.get dst with
 | some i,some j =>
  match i.desc,j.desc,x with
  | _,.int k,.int _ n=>some (.int k (k.wrap n),h)
  | .string,.string,.str s=>some (.str s,h)
  | .string,.slice e,.str s=>match E.tys.get e with
   | some ei=>match ei.desc with
    | .int .u8=>bif Nat.beq ei.size 1 then (match row h e (s.map fun c=>.int .u8 c.toNat) 2 with
     | (b,h)=>some (.slice b 0 s.length (.opn 0 0),h)) else none
    | _=>none
   | none=>none
  | .slice e,.string,.nils=>match E.tys.get e with
   | some ei=>match ei.desc with
    | .int .u8=>some (.str [],h)
    | _=>none
   | none=>none
  | .slice e,.string,.slice b o n _=>match E.tys.get e with
   | some ei=>match ei.desc with
    | .int .u8=>match n with
     | 0=>some (.str [],h)
     | n=>match h.t.get b with
      | some (.cells t m d _ _)=>match dT t m d o n with
       | some cs=>(tW cs).map fun s=>(.str s,h)
       | none=>none
      | _=>none
    | _=>none
   | none=>none
  | .slice _,.slice e,.slice b o n c=>bif Nat.beq src dst then (match E.tys.get e with
   | some ei=>match ei.desc with
    | .int .u8=>match h.t.get b with
     | some (.cells t m d el k)=>bif Nat.beq k 0||Nat.beq k 3 then some (.slice b o n c,h.put b (.cells t m d el 3)) else none
     | _=>none
    | _=>none
   | none=>none) else none
  | .slice e,.string,.gsl a n _=>match E.tys.get e with
   | some ei=>match ei.desc with
    | .int .u8=>match lG E a n with
     | some cs=>(tW cs).map fun s=>(.str s,h)
     | none=>none
    | _=>none
   | none=>none
  | _,_,_=>none
 | _,_=>none
def j0:V→Option Nat
 | .int _ n=>match n with|.ofNat n=>some n|_=>none
 | _=>none
def gB (d:Option Nat):Option V→Option Nat
 | none=>d
 | some v=>j0 v
def j6 (size b o n:Nat) (c:Cp) (l h:Nat):Option Nat→Option V
 | none=>(match c with
  | .lit c=>bif Nat.ble h c then some (.slice b (bif Nat.beq c l then o else o+l * size) (h - l) (.lit (c - l))) else none
  | .opn e o'=>bif Nat.ble h n then (match l with
   | 0=>some (.slice b o h (.opn e o'))
   | l'+1=>some (.slice b (o+(Nat.succ l') * size) (h - Nat.succ l') (.opn (e+Nat.succ l') o))) else none)
 | some m=>(match c with
  | .lit c=>bif Nat.ble h m&&Nat.ble m c then some (.slice b (bif Nat.beq m l then o else o+l * size) (h - l) (.lit (m - l))) else none
  | .opn _ _=>bif Nat.ble h m&&Nat.ble m n&&Nat.blt 0 n then some (.slice b (bif Nat.beq m l then o else o+l * size) (h - l) (.lit (m - l))) else none)
def iM (size b o n:Nat) (c:Cp) (lo hi mx:Option V):Option V :=
 match mx with
 | none=>(gB (some n) hi).bind fun h=>(gB (some 0) lo).bind fun l=>bif Nat.ble l h then j6 size b o n c l h none else none
 | some z=>(j0 z).bind fun m=>(gB none hi).bind fun h=>(gB (some 0) lo).bind fun l=>bif Nat.ble l h then j6 size b o n c l h (some m) else none
def FS (size:Nat) (a:Addr) (n c:Nat) (lo hi mx:Option V):Option V :=
 match mx with
 | none=>(gB (some n) hi).bind fun h=>(gB (some 0) lo).bind fun l=>bif Nat.ble l h then (bif Nat.ble h c then some (.gsl (bif Nat.beq c l then a else a.add (l * size)) (h - l) (c - l)) else none) else none
 | some z=>(j0 z).bind fun m=>(gB none hi).bind fun h=>(gB (some 0) lo).bind fun l=>bif Nat.ble l h then (bif Nat.ble h m&&Nat.ble m c then some (.gsl (bif Nat.beq m l then a else a.add (l * size)) (h - l) (m - l)) else none) else none
def zN (lo hi mx:Option V):Option V :=
 let z:=fun (x:Option V)=>match x with|some v=>(match j0 v with|some 0=>true|_=>false)|none=>true
 bif z lo&&z hi&&(match mx with|some _=>(match hi with|some _=>z mx|none=>false)|none=>true) then some .nils else none
def wo (s:List UInt8) (lo hi:Option V):Option V :=
 let h:=match hi with|some v=>j0 v|none=>some s.length
 match h with
 | none=>none
 | some h =>
  let l:=match lo with|some v=>j0 v|none=>some 0
  match l with
  | none=>none
  | some l=>bif Nat.ble l h&&Nat.ble h s.length then some (.str ((s.drop l).take (h - l))) else none
def eL (ty:Nat) (x:V) (lo hi mx:Option V):Option V :=
 match E.tys.get ty with
 | none=>none
 | some i=>match i.desc,x with
  | .string,.str s=>(match mx with|none=>wo s lo hi|some _=>none)
  | .slice e,.slice b o n c=>(match dy E e with
   | some size=>iM size b o n c lo hi mx
   | none=>none)
  | .slice e,.gsl a n c=>(match dy E e with
   | some size=>FS size a n c lo hi mx
   | none=>none)
  | .slice e,.nils=>(match dy E e with
   | some _=>zN lo hi mx
   | none=>none)
  | .array n e,.ptr b o=>(match dy E e with
   | some size=>iM size b o n (.lit n) lo hi mx
   | none=>none)
  | .pointer a,.ptr b o=>(match E.tys.get a with
   | some j=>(match j.desc with
    | .array n e=>(match dy E e with
     | some size=>iM size b o n (.lit n) lo hi mx
     | none=>none)
    | _=>none)
   | none=>none)
  | .array n e,.gp b o=>(match dy E e with
   | some size=>FS size ⟨b,o,none⟩ n n lo hi mx
   | none=>none)
  | .pointer a,.gp b o=>(match E.tys.get a with
   | some j=>(match j.desc with
    | .array n e=>(match dy E e with
     | some size=>FS size ⟨b,o,none⟩ n n lo hi mx
     | none=>none)
    | _=>none)
   | none=>none)
  | _,_=>none
def cu (s:Nat) (x:V) (f:Nat):Option V :=
 match E.tys.get s with
 | none=>none
 | some i=>match i.desc,x with
  | .struct fs,.ptr b o=>(match nth fs.toList f with
   | some fd=>(match dy E fd.type with
    | some 0=>none
    | some _=>some (.ptr b (o+fd.offset))
    | none=>none)
   | none=>none)
  | .struct fs,.gp b o=>(match nth fs.toList f with
   | some fd=>(match dy E fd.type with
    | some 0=>none
    | some _=>some (.gp b (o+fd.offset))
    | none=>none)
   | none=>none)
  | _,_=>none
def uC (s:Nat) (x:V) (f:Nat):Option V :=
 match E.tys.get s with
 | none=>none
 | some i=>match i.desc,x with
  | .struct fs,.agg cs=>(match nth fs.toList f with
   | some fd=>oa E fd.type cs fd.offset
   | none=>none)
  | _,_=>none
def cK (ty:Nat) (x ix:V):Option V :=
 match E.tys.get ty,j0 ix with
 | some i,some k=>match i.desc,x with
  | .array n e,.ptr b o=>bif Nat.blt k n then (dy E e).map fun s=>.ptr b (o+k * s) else none
  | .array n e,.gp b o=>bif Nat.blt k n then (dy E e).map fun s=>.gp b (o+k * s) else none
  | .slice e,.slice b o n _=>bif Nat.blt k n then (dy E e).map fun s=>.ptr b (o+k * s) else none
  | .slice e,.gsl a n _=>bif Nat.blt k n then (match a.spot with|none=>(dy E e).map fun s=>.gp a.block (a.off+k * s)|some _=>none) else none
  | _,_=>none
 | _,_=>none
def Dr (ty:Nat) (x ix:V):Option V :=
 match E.tys.get ty,j0 ix with
 | some i,some k=>match i.desc,x with
  | .array n e,.agg cs=>bif Nat.blt k n then (match dy E e with
   | some s=>oa E e cs (k * s)
   | none=>none) else none
  | .string,.str s=>(nth s k).map fun c=>.int .u8 c.toNat
  | _,_=>none
 | _,_=>none
def va (h:H) (kind:TypeDesc) (k k':V):Option Bool :=
 match kind,k,k' with
 | .interface _,.iface t (.ptr b o),.iface t' (.ptr b' o') =>
  bif Nat.beq t t' then (match E.tys.get t with
   | some i=>(match i.desc with
    | .pointer e=>(match E.tys.get e with
     | some j=>bif Nat.beq j.size 0 || !i.cmp then none else wM h b o b' o'
     | none=>none)
    | _=>none)
   | none=>none) else some false
 | .int _,.int j a,.int j' b=>if j=j' then some (decide (a=b)) else none
 | .string,.str a,.str b=>some (a==b)
 | .bool,.bool a,.bool b=>some (a==b)
 | _,_,_=>none
def gU (h:H) (kind:TypeDesc) (k:V):List (V×V×Nat)→Nat→Option (Option (Nat×V×Nat))
 | [],_=>some none
 | (k',v,born)::r,i=>match va E h kind k k' with
  | none=>none
  | some true=>some (some (i,v,born))
  | some false=>gU h kind k r (Nat.succ i)
def pD {α:Type}:List α→Nat→α→List α
 | [],_,_=>[]
 | x::r,i,y=>match i with|0=>y::r|i+1=>x::pD r i y
def As {α:Type}:List α→Nat→List α
 | [],_=>[]
 | x::r,i=>match i with|0=>r|i+1=>x::As r i
def qB (ty:Nat):Option (TI×TI) :=
 match E.tys.get ty with
 | some i=>(match i.desc with
  | .map k e=>(match E.tys.get k,E.tys.get e with
   | some ki,some ei=>some (ki,ei)
   | _,_=>none)
  | _=>none)
 | none=>none
def qx:TypeDesc→V→Bool
 | .interface _,.iface t (.ptr _ _)=>(match E.tys.get t with
  | some i=>i.cmp&&(match i.desc with|.pointer _=>true|_=>false)
  | none=>false)
 | .int _,.int _ _=>true
 | .string,.str _=>true
 | .bool,.bool _=>true
 | _,_=>false
def rq (h:H):V→Option (List (V×V×Nat))
 | .nilm=>some []
 | .map b=>(match h.t.get b with
  | some (.map es _)=>some es
  | _=>none)
 | _=>none
def gJ (h:H) (ty:Nat) (m k:V) (ok:Bool):Option V :=
 match qB E ty with
 | none=>none
 | some (ki,ei) =>
  bif qx E ki.desc k then (match rq h m with
   | none=>none
   | some es=>(match gU E h ki.desc k es 0 with
    | none=>none
    | some (some (_,v,_))=>some (bif ok then .tuple [v,.bool true] else v)
    | some none=>ei.zeroV.map fun z=>bif ok then .tuple [z,.bool false] else z)) else none
def iX (h:H) (ty:Nat) (m k v:V):Option H :=
 match qB E ty,m with
 | some (ki,_),.map b=>(match h.t.get b with
  | some (.map es clock) =>
   bif qx E ki.desc k then (match gU E h ki.desc k es 0 with
   | none=>none
   | some (some (i,_,born))=>some (h.put b (.map (pD es i (k,v,born)) clock))
   | some none=>some (h.put b (.map (es++[(k,v,clock)]) (Nat.succ clock)))) else none
  | _=>none)
 | _,_=>none
def rC (h:H) (ty:Nat) (m k:V):Option H :=
 match qB E ty with
 | none=>none
 | some (ki,_) =>
  bif qx E ki.desc k then (match m with
  | .nilm=>some h
  | .map b=>(match h.t.get b with
   | some (.map es clock)=>(match gU E h ki.desc k es 0 with
    | none=>none
    | some (some (i,_,_))=>some (h.put b (.map (As es i) clock))
    | some none=>some h)
   | _=>none)
  | _=>none) else none
def ug (h:H) (ty:Nat) (x:V):Option (V×H) :=
 match E.tys.get ty with
 | none=>none
 | some i =>
  let it:=match i.desc,x with
   | .string,.str s=>some (B.strIter s 0)
   | .map _ _,.nilm=>some (B.mapIter none 0 [] 0)
   | .map _ _,.map b=>(match h.t.get b with
    | some (.map _ clock)=>some (B.mapIter (some b) clock [] clock)
    | _=>none)
   | _,_=>none
  match it with
  | none=>none
  | some it=>match h.new it with|(b,h)=>some (.ptr b 0,h)
def jJ (h:H) (b m since:Nat) (seen:List Nat) (es:List (V×V×Nat)) (clock:Nat):List (Option (V×V×Nat))→List (V×H)
 | []=>[]
 | none::r=>(.tuple [.bool false],h)::jJ h b m since seen es clock r
 | some (k,v,born)::r=>(.tuple [.bool true,k,v],h.put b (.mapIter (some m) since (seen++[born]) clock))::jJ h b m since seen es clock r
def zd (h:H) (it:V) (isStr:Bool):R (V×H) :=
 match it with
 | .ptr b 0=>(match h.t.get b,isStr with
  | some (.strIter s pos),true =>
   bif Nat.blt pos s.length then
    (match Utf8.decode ⟨s.toArray⟩ pos with
    | (c,width)=>fQ (.tuple [.bool true,.int .i64 pos,.int .i32 c],h.put b (.strIter s (pos+width))))
   else fQ (.tuple [.bool false],h)
  | some (.mapIter none _ _ _),false=>fQ (.tuple [.bool false],h)
  | some (.mapIter (some m) since seen last),false=>(match h.t.get m with
   | some (.map es clock) =>
    bif (!seen.isEmpty && !es.isEmpty)&&es.all (fun e=>Nat.ble last e.2.2) then none else
    let left:=es.filter fun e => !seen.contains e.2.2
    let old:=left.filter fun e=>Nat.blt e.2.2 since
    let new:=left.filter fun e=>Nat.ble since e.2.2
    some (jJ h b m since seen es clock ((bif old.isEmpty then [none] else [])++(old++new).map some))
   | _=>none)
  | _,_=>none)
 | _=>none
def zi:List Nat→Option Nat
 | []=>none
 | x::r=>match r with|[]=>some x|r=>zi r
def kG (n:Nat):List (V×V×Nat)→Option (V×V)
 | []=>none
 | (k,v,born)::r=>bif Nat.beq born n then some (k,v) else kG n r
def rA (h:H) (it:V):Option V :=
 match it with
 | .ptr b 0=>(match h.t.get b with
  | some (.mapIter (some m) _ seen stepped)=>(match zi seen,h.t.get m with
   | some stamp,some (.map es clock)=>bif Nat.beq clock stepped then (kG stamp es).map fun e=>.tuple [e.1,e.2] else none
   | _,_=>none)
  | _=>none)
 | _=>none
def j8 (zero:List V):Nat→List V
 | 0=>[]
 | n+1=>zero++j8 zero n
def cX (h:H) (size n:Nat):V→Option (List V)
 | .nils=>some []
 | .slice b o m _=>bif Nat.beq (n * size) 0 then some [] else bif Nat.ble n m then (match h.t.get b with
  | some (.cells t k d _ _)=>dT t k d o (n * size)
  | _=>none) else none
 | .gsl a m _=>bif Nat.ble n m then lG E a (n * size) else none
 | .str s=>bif Nat.beq size 1 then some ((s.take n).map fun c=>.int .u8 c.toNat) else none
 | _=>none
def iu:V→Option Nat
 | .slice _ _ n _=>some n
 | .gsl _ n _=>some n
 | .nils=>some 0
 | .str s=>some s.length
 | _=>none
def grow (h:H) (elem:Nat) (old new:List V) (need:Nat):V×H :=
 match row h elem (old++new) 1 with
 | (b,h)=>(.slice b 0 need (.opn 0 0),h)
def fK (h:H) (sTy:Nat) (s x:V):Option (V×H) :=
 match E.tys.get sTy with
 | none=>none
 | some i=>match i.desc with
  | .slice e=>(match E.tys.get e,iu x with
   | some ei,some n=>(match cX E h ei.size n x with
    | none=>none
    | some new=>bif !(new.all V.one) then none else (match s with
     | .nils=>(match n with
      | 0=>some (.nils,h)
      | n=>bif Nat.ble (n * ei.bytes) 140737488355328&&Nat.blt 0 ei.bytes then some (grow h e [] new n) else none)
     | .slice b o m c =>
      let need:=m+n
      bif !(Nat.ble (need * ei.bytes) 140737488355328&&Nat.blt 0 ei.bytes&&Nat.blt 0 ei.size) then none else
      (match c with
      | .lit cp=>bif Nat.ble need cp then (gZ h b (o+m * ei.size) new).map fun h=>(.slice b o need (.lit cp),h)
       else (match cX E h ei.size m s with
        | some old=>some (grow h e old new need)
        | none=>none)
      | .opn el o'=>(match h.t.get b with
       | some (.cells t k d be kind) =>
        bif !(Nat.beq be e&&(Nat.beq kind 1||Nat.beq kind 2)) then none else bif Nat.ble ((el+need) * ei.size) k then (gZ h b (o+m * ei.size) new).map fun h=>(.slice b o need (.opn el o'),h)
        else (match o with
         | 0=>(match el,o' with
          | 0,0=>bif Nat.ble (m * ei.size) k then
             some (.slice h.bX 0 need (.opn 0 0),H.mk ((h.t.del b).set h.bX (.cells (t.putL (m * ei.size) new) (need * ei.size) d e kind)) (Nat.succ h.bX))
            else none
          | _,_=>none)
         | _+1=>none)
       | _=>none))
     | _=>none))
   | _,_=>none)
  | _=>none
def rH (h:H) (e:Nat) (ei:TI) (s:V) (new:List V) (n:Nat):Option (V×H) :=
 match s with
     | .nils=>(match n with
      | 0=>some (.nils,h)
      | n=>bif Nat.ble (n * ei.bytes) 140737488355328&&Nat.blt 0 ei.bytes then some (grow h e [] new n) else none)
     | .slice b o m c =>
      let need:=m+n
      bif !(Nat.ble (need * ei.bytes) 140737488355328&&Nat.blt 0 ei.bytes&&Nat.blt 0 ei.size) then none else
      (match c with
      | .lit cp=>bif Nat.ble need cp then (gZ h b (o+m * ei.size) new).map fun h=>(.slice b o need (.lit cp),h)
       else (match cX E h ei.size m s with
        | some old=>some (grow h e old new need)
        | none=>none)
      | .opn el o'=>(match h.t.get b with
       | some (.cells t k d be kind) =>
        bif !(Nat.beq be e&&(Nat.beq kind 1||Nat.beq kind 2)) then none else bif Nat.ble ((el+need) * ei.size) k then (gZ h b (o+m * ei.size) new).map fun h=>(.slice b o need (.opn el o'),h)
        else (match o with
         | 0=>(match el,o' with
          | 0,0=>bif Nat.ble (m * ei.size) k then
             some (.slice h.bX 0 need (.opn 0 0),H.mk ((h.t.del b).set h.bX (.cells (t.putL (m * ei.size) new) (need * ei.size) d e kind)) (Nat.succ h.bX))
            else none
          | _,_=>none)
         | _+1=>none)
       | _=>none))
     | _=>none
def nF (h:H) (sTy:Nat) (s x:V):Option (V×H) :=
 match E.tys.get sTy with
 | none=>none
 | some i=>match i.desc,x with
  | .slice e,.int _ z=>(match E.tys.get e,z with
   | some ei,.ofNat n=>bif Nat.blt 0 n&&Nat.blt 0 ei.size&&(j8 ei.zero n).all V.one&&Nat.ble (n * ei.bytes) 140737488355328&&Nat.blt 0 ei.bytes then rH E h e ei s (j8 ei.zero n) n else none
   | _,_=>none)
  | _,_=>none
def qO (h:H) (dTy:Nat) (d s:V):Option (V×H) :=
 match E.tys.get dTy with
 | none=>none
 | some i=>match i.desc with
  | .slice e=>(match E.tys.get e,iu d,iu s with
   | some ei,some dn,some sn =>
    let n:=Nat.min sn dn
    (match cX E h ei.size n s with
    | none=>none
    | some cs=>(match d with
     | .nils=>some (.int .i64 n,h)
     | .slice b o _ _=>(gZ h b o cs).map fun h=>(.int .i64 n,h)
     | _=>none))
   | _,_,_=>none)
  | _=>none
def lenB (h:H) (ty:Nat) (x:V):Option V :=
 match E.tys.get ty with
 | none=>none
 | some i=>(match i.desc,x with
  | .string,.str s=>some (.int .i64 s.length)
  | .array n _,_=>some (.int .i64 n)
  | .pointer a,_=>(match E.tys.get a with
   | some j=>(match j.desc with|.array n _=>some (.int .i64 n)|_=>none)
   | none=>none)
  | .slice _,.slice _ _ n _=>some (.int .i64 n)
  | .slice _,.gsl _ n _=>some (.int .i64 n)
  | .slice _,.nils=>some (.int .i64 0)
  | .map _ _,.nilm=>some (.int .i64 0)
  | .map _ _,.map b=>(match h.t.get b with
   | some (.map es _)=>some (.int .i64 es.length)
   | _=>none)
  | _,_=>none)
def jj (h:H) (ty:Nat) (l c:V):Option (V×H) :=
 match E.tys.get ty,j0 l,j0 c with
 | some i,some l,some c=>(match i.desc with
  | .slice e=>(match E.tys.get e with
   | some ei=>bif Nat.ble l c&&Nat.ble (ei.bytes * c) 281474976710656&&Nat.blt c 9223372036854775808 then
     (match h.new (.cells .lf (c * ei.size) ei.zero e 0) with
     | (b,h)=>some (.slice b 0 l (.lit c),h)) else none
   | none=>none)
  | _=>none)
 | _,_,_=>none
def opd (fr:Fr):Operand→Option V
 | .tmp t=>fr.ts.get t
 | .const v=>ofValue v
 | .global g=>some (.gp g 0)
 | .func f=>some (.func f [] [])
def jf (fr:Fr):List Operand→Option (List V)
 | []=>some []
 | x::r=>match opd fr x with
  | none=>none
  | some v=>match jf fr r with
   | none=>none
   | some vs=>some (v::vs)
def ja (fr:Fr):List (Nat×Operand)→Option (List (Nat×V))
 | []=>some []
 | (i,x)::r=>match opd fr x with
  | none=>none
  | some v=>match ja fr r with
   | none=>none
   | some vs=>some ((i,v)::vs)
def mT (fr:Fr):Option Operand→Option (Option V)
 | none=>some none
 | some x=>(opd fr x).map some
def Az (t:Nat) (ok:Bool) (x:V):Option V :=
 match E.tys.get t with
 | none=>none
 | some i=>match i.desc,x with
  | .interface _,_=>none
  | _,.iface t' v=>bif Nat.beq t' t then some (bif ok then .tuple [v,.bool true] else v) else (bif ok then some (.tuple [i.zv,.bool false]) else none)
  | _,.nili=>bif ok then some (.tuple [i.zv,.bool false]) else none
  | _,_=>none
def pv (t:Nat) (x:V):Option V :=
 match E.tys.get t with
 | none=>none
 | some i=>match i.desc,x with
  | .array n _,.slice b o m _=>match m with
   | 0=>none
   | m+1=>bif Nat.ble n (Nat.succ m) then some (.ptr b o) else none
  | _,_=>none
def un:V:=.tuple []
structure Rec where
 code:Code→Fr→H→R (Ex×Fr×H)
 call:Nat→List V→H→R (V×H)
 yield:Nat→List V→H→R (V×H)
def r1 (x:Option (V×H)):R (V×H):=match x with|none=>none|some x=>fQ x
def rv (h:H) (x:Option V):R (V×H):=match x with|none=>none|some v=>fQ (v,h)
def rh (x:Option H):R (V×H):=match x with|none=>none|some h=>fQ (un,h)
def lO (ih:Rec) (h:H) (f:V) (args:List V):R (V×H) :=
 match f with
 | .func g first cap=>ih.call g (first++args++cap) h
 | .yield b=>ih.yield b args h
 | _=>none
def iP (h:H) (b:Builtin) (tys:List Nat) (args:List V):R (V×H) :=
 match b with
 | .len=>(match tys,args with
  | t::_,[x]=>rv h (lenB E h t x)
  | _,_=>none)
 | .append=>(match tys,args with
  | [t,t2],[s,x]=>(match E.tys.get t2 with
   | some i=>(match i.desc with
    | .slice _=>r1 (fK E h t s x)
    | .string=>r1 (fK E h t s x)
    | .int _=>r1 (nF E h t s x)
    | _=>none)
   | none=>none)
  | _,_=>none)
 | .copy=>(match tys,args with
  | t::_,[d,s]=>r1 (qO E h t d s)
  | _,_=>none)
 | .delete=>(match tys,args with
  | t::_,[m,k]=>rh (rC E h t m k)
  | _,_=>none)
 | .max=>(match args with
  | [.int k x,.int _ y]=>fQ (.int k (if y > x then y else x),h)
  | _=>none)
 | .min=>(match args with
  | [.int k x,.int _ y]=>fQ (.int k (if y<x then y else x),h)
  | _=>none)
 | _=>none
def wU (t:Nat) (name:String):List (Nat×String×Nat)→Option Nat
 | []=>none
 | (t',n',f)::r=>bif Nat.beq t t'&&(n'==name) then some f else wU t name r
def opV (ih:Rec) (fr:Fr) (h:H) (o:Oper):R (V×H) :=
 match o.op with
 | .move x=>rv h (opd fr x)
 | .assign x=>rv h (opd fr x)
 | .pick c a b=>(match opd fr c with
  | some (.bool t)=>rv h (bif t then opd fr a else opd fr b)
  | _=>none)
 | .alloc t=>(match E.tys.get t with
  | some i=>(match row h t i.zero 0 with|(b,h)=>fQ (.ptr b 0,h))
  | none=>none)
 | .box t x=>(match opd fr x with
  | some v=>(match row h t v.cells 0 with|(b,h)=>fQ (.ptr b 0,h))
  | none=>none)
 | .build t ps=>(match E.tys.get t,ja fr ps.toList with
  | some i,some vs=>(match i.desc with
   | .struct fs=>bif !(fs.toList.all fun f=>(E.tys.get f.type).isSome) then none else rv h ((cW (fun k=>match nth fs.toList k with
     | some f=>(dy E f.type).map fun s=>(f.offset,s)
     | none=>none) i.zero vs).map .agg)
   | .array _ e=>(match dy E e with
    | some s=>rv h ((cW (fun k=>some (k * s,s)) i.zero vs).map .agg)
    | none=>none)
   | _=>none)
  | _,_=>none)
 | .buildSlice t n ps=>(match E.tys.get t,ja fr ps.toList with
  | some i,some vs=>(match i.desc with
   | .slice e=>(match E.tys.get e with
    | some ei=>bif Nat.ble (n * ei.size) 16777216&&Nat.blt 0 ei.size then
      (match cW (fun k=>some (k * ei.size,ei.size)) (j8 ei.zero n) vs with
      | some cs=>(match row h e cs 0 with|(b,h)=>fQ (.slice b 0 n (.lit n),h))
      | none=>none) else none
    | none=>none)
   | _=>none)
  | _,_=>none)
 | .load t a=>(match opd fr a with
  | some (.ptr b o)=>rv h (p6 E h t b o)
  | some (.gp g o)=>rv h (rX E t g o)
  | _=>none)
 | .store t a x=>(match opd fr a,opd fr x with
  | some (.ptr b o),some v=>rh (pB E h t b o v)
  | _,_=>none)
 | .nilCheck x=>(match opd fr x with
  | some (.ptr b o)=>fQ (.ptr b o,h)
  | some (.gp b o)=>fQ (.gp b o,h)
  | some (.func f a c)=>fQ (.func f a c,h)
  | some (.yield b)=>fQ (.yield b,h)
  | some (.iface t v)=>fQ (.iface t v,h)
  | _=>none)
 | .binOp op t x y _=>(match opd fr x,opd fr y with
  | some a,some b=>rv h (fJ E h (iH x||iH y) op t a b)
  | _,_=>none)
 | .unOp op _ x=>(match opd fr x with
  | some x=>rv h (unV op x)
  | none=>none)
 | .convert s d x=>(match opd fr x with
  | some x=>r1 (j3 E h s d x)
  | none=>none)
 | .makeInterface t x=>(match opd fr x,E.tys.get t with
  | some x,some i=>(match i.desc with
   | .interface _=>none
   | _=>fQ (.iface t x,h))
  | _,_=>none)
 | .makeFunc fn first cap=>(match fn,jf fr first.toList,jf fr cap.toList with
  | .func f,some a,some c=>fQ (.func f a c,h)
  | _,_,_=>none)
 | .makeMap _ r=>(match r with
  | none=>(match h.new (.map [] 0) with|(b,h)=>fQ (.map b,h))
  | some _=>none)
 | .makeSlice t l c=>(match opd fr l,opd fr c with
  | some l,some c=>r1 (jj E h t l c)
  | _,_=>none)
 | .slice t x lo hi mx=>(match opd fr x,mT fr lo,mT fr hi,mT fr mx with
  | some x,some lo,some hi,some mx=>rv h (eL E t x lo hi mx)
  | _,_,_,_=>none)
 | .fieldAddr s x f=>(match opd fr x with
  | some x=>rv h (cu E s x f)
  | none=>none)
 | .field s x f=>(match opd fr x with
  | some x=>rv h (uC E s x f)
  | none=>none)
 | .indexAddr t x i=>(match opd fr x,opd fr i with
  | some x,some i=>rv h (cK E t x i)
  | _,_=>none)
 | .index t x i=>(match opd fr x,opd fr i with
  | some x,some i=>rv h (Dr E t x i)
  | _,_=>none)
 | .lookup t m k ok=>(match opd fr m,opd fr k with
  | some m,some k=>rv h (gJ E h t m k ok)
  | _,_=>none)
 | .mapUpdate t m k v=>(match opd fr m,opd fr k,opd fr v with
  | some m,some k,some v=>rh (iX E h t m k v)
  | _,_,_=>none)
 | .insert t m k v=>(match opd fr m,opd fr k,opd fr v with
  | some m,some k,some v=>rh (iX E h t m k v)
  | _,_,_=>none)
 | .range t x=>(match opd fr x with
  | some x=>r1 (ug E h t x)
  | none=>none)
 | .next it s=>(match opd fr it with
  | some it=>zd h it s
  | none=>none)
 | .entry it=>(match opd fr it with
  | some it=>rv h (rA h it)
  | none=>none)
 | .extract t i=>(match opd fr t with
  | some (.tuple vs)=>rv h (nth vs i)
  | _=>none)
 | .typeAssert x _ t ok=>(match opd fr x with
  | some x=>rv h (Az E t ok x)
  | none=>none)
 | .sliceToArrayPointer t x=>(match opd fr x with
  | some x=>rv h (pv E t x)
  | none=>none)
 | .call c=>(match c.callee,jf fr c.args.toList with
  | .value f,some args=>(match opd fr f with
   | some f=>lO ih h f args
   | none=>none)
  | .builtin b,some args=>iP E h b c.argTypes.toList args
  | .invoke r name,some args=>(match opd fr r with
   | some (.iface t v)=>(match wU t name E.meths with
    | some f=>ih.call f (v::args) h
    | none=>none)
   | _=>none)
  | _,none=>none)
 | _=>none
def Fr.put (fr:Fr) (dst:Option Nat) (v:V):Option Fr :=
 match dst with
 | none=>some fr
 | some d=>bif Nat.blt d fr.nt then some {fr with ts:=fr.ts.set d v} else none
def dS (fr:Fr) (ops:List Oper) (o:Oper):Option Bool :=
 match o.guard with
 | none=>some true
 | some (j,want)=>match nth ops j with
  | some g=>(match g.dst with
   | some d=>(match fr.ts.get d with
    | some (.bool b)=>some (b==want)
    | some (.tuple [])=>some false
    | _=>none)
   | none=>none)
  | none=>none
def tF (ih:Rec) (all:List Oper):List Oper→Fr→H→R (Fr×H)
 | [],fr,h=>fQ (fr,h)
 | o::r,fr,h=>match dS fr all o with
  | none=>none
  | some false=>(match fr.put o.dst un with
   | some fr=>tF ih all r fr h
   | none=>none)
  | some true=>ji (opV E ih fr h o) fun x=>match fr.put o.dst x.1 with
   | some fr=>tF ih all r fr x.2
   | none=>none
inductive Cl where
 | pure|read|eff
def ot (o:Oper):Cl :=
 match o.op with
 | .move _|.pick _ _ _|.nilCheck _|.unOp _ _ _|.build _ _|.fieldAddr _ _ _|.field _ _ _|.indexAddr _ _ _|.index _ _ _
 | .extract _ _|.makeInterface _ _|.makeFunc _ _ _|.slice _ _ _ _ _|.sliceToArrayPointer _ _=>.pure
 | .load _ _|.lookup _ _ _ _|.binOp _ _ _ _ _|.typeAssert _ _ _ _=>.read
 | .convert _ d _=>(match E.tys.get d with
  | some i=>(match i.desc with|.slice _=>.eff|_=>.read)
  | none=>.eff)
 | .call c=>(match c.callee with
  | .builtin .len=>.read
  | _=>.eff)
 | _=>.eff
def pZ:List Oper→List Nat→List Nat
 | [],acc=>acc
 | o::r,acc=>pZ r (acc++[o.after.toList.foldl (fun s e=>bif Region.binds .any e then Nat.lor s (Nat.lor (Nat.shiftLeft 1 e.on) ((nth acc e.on).getD 0)) else s) 0])
def lF:Operand→List Nat
 | .tmp t=>[t]
 | _=>[]
def looks (ops:List Oper) (o:Oper):List Nat :=
 o.op.operands.toList.flatMap lF++(match o.guard with
  | some (g,_)=>(match nth ops g with
   | some x=>(match x.dst with|some d=>[d]|none=>[])
   | none=>[])
  | none=>[])
def nK (x:Nat):List Nat→Bool
 | []=>false
 | y::r=>bif Nat.beq x y then true else nK x r
abbrev Pn:=Nat×Nat×Oper
def iZ:List Oper→List Nat→Nat→List Pn
 | o::r,m::ms,i=>(i,m,o)::iZ r ms (Nat.succ i)
 | _,_,_=>[]
def zw (n:Nat) (o:Oper):Bool:=o.after.toList.all fun e => !(Region.binds .any e)||Nat.blt e.on n
def pk (o:Oper):Bool:=match o.op with|.assign _=>true|_=>false
def I7 (all:List Oper) (p:Pn) (ps:List Pn):Bool :=
 ps.all fun q=>(match q.2.2.dst with
  | none=>true
  | some d=>(Nat.testBit p.2.1 q.1 || !(nK d (looks all p.2.2))||(pk q.2.2&&Nat.testBit q.2.1 p.1))&&(Nat.beq p.1 q.1||(match p.2.2.dst with|some d' => !(Nat.beq d d')|none=>true)))
def xP (all:List Oper) (ps:List Pn):Bool:=ps.all fun p=>zw p.1 p.2.2&&I7 all p ps
def iB (o:Oper):Bool:=match ot E o with|.eff=>true|_=>false
def jP (o:Oper):Bool:=match ot E o with|.read=>true|_=>false
def ip (m done:Nat):Bool:=Nat.beq (Nat.land m done) m
def kx (done:Nat):List Pn→Option (Pn×List Pn)
 | []=>none
 | p::r=>bif !(iB E p.2.2)&&ip p.2.1 done then some (p,r) else (match kx done r with
  | none=>none
  | some (q,r')=>some (q,p::r'))
def jY (done:Nat):List Pn→List (Pn×List Pn)
 | []=>[]
 | p::r=>(bif iB E p.2.2&&ip p.2.1 done then [(p,r)] else [])++(jY done r).map fun x=>(x.1,p::x.2)
def sI (ih:Rec) (v:V) (fr:Fr) (o:Oper) (h:H):Bool :=
 match opV E ih fr h o with
 | some [(v',_)]=>V.beq v v'
 | _=>false
def g0 (ih:Rec) (m:Nat) (fr:Fr) (h:H):List (Nat×Oper×V)→Bool
 | []=>true
 | (k,o,v)::r=>(Nat.testBit m k||sI E ih v fr o h)&&g0 ih m fr h r
def ee (done i:Nat):Nat:=Nat.lor done (Nat.shiftLeft 1 i)
def kw (ih:Rec) (all:List Oper):Nat→List Pn→Nat→List (Nat×Oper×V)→Fr→H→R (Fr×H)
 | _,[],_,_,fr,h=>fQ (fr,h)
 | 0,_,_,_,_,_=>none
 | n+1,ps,done,rd,fr,h=>match kx E done ps with
  | some (p,rest)=>(match dS fr all p.2.2 with
   | none=>none
   | some false=>(match fr.put p.2.2.dst un with
    | some fr'=>kw ih all n rest (ee done p.1) rd fr' h
    | none=>none)
   | some true=>(match opV E ih fr h p.2.2 with
    | some [(v,_)]=>(match fr.put p.2.2.dst v with
     | some fr'=>kw ih all n rest (ee done p.1) (bif jP E p.2.2 then (p.1,p.2.2,v)::rd else rd) fr' h
     | none=>none)
    | _=>none))
  | none=>j9 (fun (x:Pn×List Pn)=>match dS fr all x.1.2.2 with
   | none=>none
   | some false=>(match fr.put x.1.2.2.dst un with
    | some fr'=>kw ih all n x.2 (ee done x.1.1) rd fr' h
    | none=>none)
   | some true=>ji (opV E ih fr h x.1.2.2) fun y=>bif g0 E ih x.1.2.1 fr y.2 rd then (match fr.put x.1.2.2.dst y.1 with
    | some fr'=>kw ih all n x.2 (ee done x.1.1) rd fr' y.2
    | none=>none) else none) (jY E done ps)
def drawn (ih:Rec) (ops:List Oper) (fr:Fr) (h:H):R (Fr×H) :=
 match iZ ops (pZ ops []) 0 with
 | ps=>bif xP ops ps then kw E ih ops (Nat.succ ops.length) ps 0 [] fr h else none
def resV (fr:Fr) (h:H):List ResultVar→Option (List V)
 | []=>some []
 | x::r =>
  let v:=match x with
   | .tmp t=>fr.ts.get t
   | .cell a t=>(match fr.ts.get a with
    | some (.ptr b o)=>p6 E h t b o
    | _=>none)
  match v with
  | none=>none
  | some v=>match resV fr h r with
   | none=>none
   | some vs=>some (v::vs)
def og:List V→V
 | [v]=>v
 | vs=>.tuple vs
def jF:List D→H→Option H
 | [],h=>some h
 | .mark b::r,h=>(match h.t.get b with
  | some (.defs false)=>jF r (h.put b (.defs true))
  | _=>none)
def zX (ih:Rec) (pend:Option Code) (fr:Fr) (h:H):R (Ex×Fr×H) :=
 match pend with
 | none=>fQ (.normal,fr,h)
 | some j=>ih.code j fr h
def kK (ih:Rec) (lb:Nat) (fr:Fr) (h:H):R (Ex×Fr×H) :=
 match h.t.get lb with
 | some (.loop st pend fn ts nt ps a b d)=>(match st with
  | .busy=>none
  | _=>zX ih pend fr (h.put lb (.loop .exhausted pend fn ts nt ps a b d)))
 | _=>none
def eZ (ih:Rec) (c:Code) (fr:Fr) (h:H):R (Ex×Fr×H) :=
 match c with
 | .skip=>fQ (.normal,fr,h)
 | .label _=>fQ (.normal,fr,h)
 | .region _ ops draw =>
  ji (bif draw then drawn E ih ops.toList fr h else tF E ih ops.toList ops.toList fr h) fun x=>fQ (.normal,x.1,x.2)
 | .seq a b=>ji (ih.code a fr h) fun x=>match x.1 with
  | .normal=>ih.code b x.2.1 x.2.2
  | e=>fQ (e,x.2.1,x.2.2)
 | .cond c a b=>(match opd fr c with
  | some (.bool true)=>ih.code a fr h
  | some (.bool false)=>ih.code b fr h
  | _=>none)
 | .block id body=>ji (ih.code body fr h) fun x=>match x.1 with
  | .exit id'=>bif Nat.beq id id' then fQ (.normal,x.2.1,x.2.2) else fQ (.exit id',x.2.1,x.2.2)
  | e=>fQ (e,x.2.1,x.2.2)
 | .loop body=>ji (ih.code body fr h) fun x=>match x.1 with
  | .normal=>ih.code (.loop body) x.2.1 x.2.2
  | e=>fQ (e,x.2.1,x.2.2)
 | .exit id=>fQ (.exit id,fr,h)
 | .ret=>fQ (.ret,fr,h)
 | .scope body=>ih.code body fr h
 | .rangeFunc f params assign body =>
  (match fr.rnd with
  | none =>
   match h.new (.defs false) with
   | (db,h)=>match h.new (.loop .ready none fr.fn fr.ts fr.nt params.toList assign body db) with
    | (lb,h)=>(match opd fr f with
     | some fv=>ji (lO ih h fv [.yield lb]) fun x=>kK ih lb {fr with mks:=.mark db::fr.mks} x.2
     | none=>none)
  | some l=>(match h.t.get l with
   | some (.loop _ _ _ _ _ _ _ _ dl)=>(match h.new (.loop .ready none fr.fn fr.ts fr.nt params.toList assign body dl) with
    | (lb,h)=>(match opd fr f with
     | some fv=>ji (lO ih h fv [.yield lb]) fun x=>kK ih lb fr x.2
     | none=>none))
   | _=>none))
 | _=>none
def tE (ts:T V) (nt:Nat):List Nat→List V→Option (T V)
 | [],[]=>some ts
 | p::ps,v::vs=>bif Nat.blt p nt then tE (ts.set p v) nt ps vs else none
 | _,_=>none
def EV (c:UInt8):List UInt8→Nat→Option Nat
 | [],_=>none
 | x::r,i=>bif x==c then some i else EV c r (Nat.succ i)
def Fl (c:UInt8):List UInt8→Nat→Nat
 | [],n=>n
 | x::r,n=>Fl c r (bif x==c then Nat.succ n else n)
def extV (kind:Nat) (args:List V):Option V :=
 match kind,args with
 | 0,[.str s,c]=>(match JG c with
  | some c=>(match EV c s 0 with
   | some i=>some (.int .i64 i)
   | none=>some (.int .i64 (-1)))
  | none=>none)
 | 1,[.str s,c]=>(JG c).map fun c=>.int .i64 (Fl c s 0)
 | _,_=>none
def vf (f:Nat):List (Nat×Nat)→Option Nat
 | []=>none
 | (g,k)::r=>bif Nat.beq f g then some k else vf f r
def ll (ih:Rec) (f:Nat) (i:FI) (args:List V) (h:H):R (V×H) :=
 bif Nat.ble args.length i.nt then
   ji (ih.code i.body {ts:=T.putL .lf 0 args,nt:=i.nt,mks:=[],fn:=f,rnd:=none} h) fun x=>match x.1 with
    | .exit _=>none
    | _=>(match jF x.2.1.mks x.2.2 with
     | none=>none
     | some h=>(match resV E x.2.1 h i.res with
      | some vs=>fQ (og vs,h)
      | none=>none))
  else none
def T.delFrom {α:Type} (t:T α) (k:Nat):Nat→T α
 | 0=>t
 | n+1=>T.delFrom (t.del k) (Nat.succ k) n
def zM (n0:Nat) (x:V×H):V×H :=
 match x.1 with
 | .slice b o n c=>bif Nat.ble n0 b then (match x.2.t.get b with
  | some B=>(.slice x.2.bX o n c,{t:=(T.delFrom x.2.t n0 (x.2.bX - n0)).set x.2.bX B,bX:=Nat.succ x.2.bX})
  | none=>x) else x
 | v=>(v,{t:=T.delFrom x.2.t n0 (x.2.bX - n0),bX:=x.2.bX})
def keepB:B→Bool
 | .cells _ _ _ _ _=>true
 | .map _ _=>true
 | _=>false
def yY:T B→T B
 | .lf=>.lf
 | .nd l v r=>.nd (yY l) (match v with|some b=>bif keepB b then some b else none|none=>none) (yY r)
def clean (x:V×H):V×H:=(x.1,{t:=yY x.2.t,bX:=x.2.bX})
def Da {α:Type} (eq:α→α→Bool):Option α→Option α→Bool
 | none,none=>true
 | some x,some y=>eq x y
 | _,_=>false
def T.beq {α:Type} (eq:α→α→Bool):T α→T α→Bool
 | .lf,.lf=>true
 | .nd l v r,.nd l' v' r'=>Da eq v v'&&T.beq eq l l'&&T.beq eq r r'
 | _,_=>false
def rz:List (V×V×Nat)→List (V×V×Nat)→Bool
 | [],[]=>true
 | x::r,y::r'=>V.beq x.1 y.1&&V.beq x.2.1 y.2.1&&Nat.beq x.2.2 y.2.2&&rz r r'
 | _,_=>false
def B.beq:B→B→Bool
 | .cells t n d e k,.cells t' n' d' e' k'=>Nat.beq n n'&&Nat.beq e e'&&Nat.beq k k'&&V.beqL d d'&&T.beq V.beq t t'
 | .map es c,.map es' c'=>Nat.beq c c'&&rz es es'
 | _,_=>false
def BU (x y:V×H):Bool:=Nat.beq x.2.bX y.2.bX&&V.beq x.1 y.1&&T.beq B.beq x.2.t y.2.t
def zc:List (V×H)→List (V×H)
 | []=>[]
 | x::r=>match zc r with
  | r'=>bif r'.any (BU x) then r' else x::r'
def A9 (f:Nat):List (Nat×Nat×Nat)→List Nat→Option Nat
 | [],_=>none
 | (f',g',e)::r,gs=>bif Nat.beq f f'&&gs.contains g' then some e else A9 f r gs
def yL:List (V×V×Nat)→Option (List (List UInt8))
 | []=>some []
 | (k,_,_)::r=>match k,yL r with
  | .str s,some l=>some (s::l)
  | _,_=>none
def qZ:Nat→List (V×V×Nat)→Bool
 | _,[]=>true
 | i,e::r=>Nat.beq e.2.2 i&&qZ (Nat.succ i) r
def dK (l:List (List UInt8)):List (List UInt8):=l.mergeSort fun x y=>decide (x≤y)
def Ag (es:List (V×V×Nat)) (c:Nat) (ks:List (List UInt8)):Bool :=
 qZ 0 es&&Nat.beq c es.length&&decide ks.Nodup&&Nat.ble (es.length * 16) 140737488355328&&ks.all fun k=>Nat.ble k.length 140737488355328
def zk (h:H) (f:Nat) (args:List V):Option (V×H) :=
 match args with
 | [.func g [] [.ptr b 0]]=>(match A9 f E.sk [g] with
  | some e=>(match E.tys.get e,h.t.get b with
   | some i,some (.cells t n d _ _)=>(match eH t n d 0 with
    | some (.map m)=>(match h.t.get m with
     | some (.map es c)=>(match yL es with
      | some ks=>bif Nat.beq i.size 1&&Ag es c ks then (match ks with
       | []=>some (.nils,h)
       | _::_=>some (grow h e [] ((dK ks).map .str) ks.length)) else none
      | none=>none)
     | _=>none)
    | _=>none)
   | _,_=>none)
  | none=>none)
 | _=>none
def oQ (ih:Rec) (f:Nat) (args:List V) (h:H):R (V×H) :=
 match vf f E.exts with
 | some k=>rv h (extV k args)
 | none=>(match E.sw.get f with
  | some i=>(match ll E ih f i args h with
   | some l=>some (zc (l.map fun x=>clean (zM h.bX x)))
   | none=>none)
  | none=>bif E.dn.contains f&&args.isEmpty then fQ (.bool true,{t:=.lf,bX:=h.bX}) else r1 (zk E h f args))
def gh (ih:Rec) (f:Nat) (args:List V) (h:H):R (V×H) :=
 match E.fns.get f with
 | none=>oQ E ih f args h
 | some i=>ll E ih f i args h
def Cn:Option Code→LoopState
 | none=>.ready
 | some _=>.done
def mn (ih:Rec) (l:Nat) (args:List V) (h:H):R (V×H) :=
 match h.t.get l with
 | some (.loop .ready _ fn ts nt ps a b _)=>(match tE ts nt ps args with
  | none=>none
  | some ts' =>
   ji (ih.code a {ts:=ts',nt:=nt,mks:=[],fn:=fn,rnd:=some l} h) fun x=>match x.1 with
    | .normal=>(match x.2.2.t.get l with
     | some (.loop .ready pend fn ts nt ps a' b' d) =>
      ji (ih.code b x.2.1 (x.2.2.put l (.loop .busy pend fn ts nt ps a' b' d))) fun y =>
       let jump:Option Code:=match y.1 with|.normal=>none|.exit id=>some (.exit id)|.ret=>some .ret
       match y.2.1.mks with
       | []=>(match y.2.2.t.get l with
        | some (.loop _ _ fn ts nt ps a' b' d)=>fQ (.bool jump.isNone,y.2.2.put l (.loop (Cn jump) jump fn ts nt ps a' b' d))
        | _=>none)
       | _=>none
     | _=>none)
    | _=>none)
 | _=>none
def vy (ih:Rec):Rec :=
 {code:=eZ E ih,call:=gh E ih,yield:=mn ih}
def lQ:Rec:={code:=fun _ _ _=>none,call:=fun _ _ _=>none,yield:=fun _ _ _=>none}
def ev (n:Nat):Rec:=Nat.rec lQ (fun _ ih=>vy E ih) n
end
def TI.of (P:Program) (t:Nat):Option TI :=
 match P.info? t,P.underlying t with
 | some i,some d=>(match i.zero with
  | some z=>(match ofValue z with
   | some v=>bif Nat.beq v.cells.length i.size then some {desc:=d,size:=i.size,bytes:=i.bytes,zero:=v.cells,zv:=v,cmp:=i.comparable} else none
   | none=>none)
  | none=>none)
 | _,_=>none
def FI.of (P:Program) (f:Nat):Option FI :=
 match P.funcs[f]? with
 | some fn=>(match fn.body with
  | some c=>(match fn.name == "runtime.NumGoroutine" with
   | true=>none
   | false=>some {nt:=fn.ntmps,body:=c,res:=fn.results.toList})
  | none=>none)
 | none=>none
def pX (P:Program):List Nat→T TI
 | []=>.lf
 | t::r=>match TI.of P t with
  | some i=>(pX P r).set t i
  | none=>pX P r
def nh (P:Program):List Nat→T FI
 | []=>.lf
 | t::r=>match FI.of P t with
  | some i=>(nh P r).set t i
  | none=>nh P r
def pR (P:Program) (ts fs sw dn es:List Nat) (globs:T (List V)):Env :=
 {tys:=pX P ts,fns:=nh P fs,meths:=[],eqs:=es,exts:=[],globs:=globs,sw:=nh P sw,dn:=dn}
theorem T.get_lf {α:Type} (k:Nat):(T.lf:T α).get k=none:=by cases k<;>rfl
theorem T.get_setF {α:Type} (x:Option α):∀(f:Nat) (t:T α) (k j:Nat),k<f→(T.setF x f t k).get j=if j=k then x else t.get j:=by
 intro f
 induction f with
 | zero=>intro t k j h;omega
 | succ f ih =>
  intro t k j h
  have key:∀(l r:T α) (v:Option α) (k j:Nat),k+1<f+1 →
    (match Nat.mod k 2 with|0=>T.nd (T.setF x f l (Nat.div k 2)) v r|_+1=>T.nd l v (T.setF x f r (Nat.div k 2))).get (j+1)
     = if j+1=k+1 then x else (T.nd l v r).get (j+1):=by
   intro l r v k j hk
   have hd:Nat.div k 2<f:=by
    have:Nat.div k 2≤k:=Nat.div_le_self k 2;omega
   have e1:k=2 * Nat.div k 2+Nat.mod k 2:=(Nat.div_add_mod k 2).symm;have e2:j=2 * Nat.div j 2+Nat.mod j 2:=(Nat.div_add_mod j 2).symm;have l1:Nat.mod k 2<2:=Nat.mod_lt k (by omega);have l2:Nat.mod j 2<2:=Nat.mod_lt j (by omega);generalize hmk:Nat.mod k 2=mk at *;generalize hmj:Nat.mod j 2=mj at *
   match mk,mj,l1,l2 with
   | 0,0,_,_ =>
    simp only [T.get,hmj];rw [ih l _ _ hd]
    by_cases e:Nat.div j 2=Nat.div k 2
    ·have:j=k:=by omega
     simp [this]
    ·have:¬j=k:=fun hjk=>e (by rw [hjk]);simp [this,e]
   | 0,1,_,_ =>
    simp only [T.get,hmj];have:¬j=k:=by omega
    simp [this]
   | 1,0,_,_ =>
    simp only [T.get,hmj];have:¬j=k:=by omega
    simp [this]
   | 1,1,_,_ =>
    simp only [T.get,hmj];rw [ih r _ _ hd]
    by_cases e:Nat.div j 2=Nat.div k 2
    ·have:j=k:=by omega
     simp [this]
    ·have:¬j=k:=fun hjk=>e (by rw [hjk]);simp [this,e]
  cases t with
  | lf =>
   cases k with
   | zero =>
    cases j with
    | zero=>rfl
    | succ j =>
     simp only [T.setF,T.get];simp
     split<;>rfl
   | succ k =>
    cases j with
    | zero =>
     simp only [T.setF]
     split<;>simp [T.get]
    | succ j =>
     have:=key .lf .lf none k j (by omega);simp only [T.setF];refine Eq.trans this ?_;simp only [T.get]
     split
     ·rfl
     ·split<;>simp
  | nd l v r =>
   cases k with
   | zero =>
    cases j with
    | zero=>rfl
    | succ j=>simp [T.setF,T.get]
   | succ k =>
    cases j with
    | zero =>
     simp only [T.setF]
     split<;>simp [T.get]
    | succ j =>
     have:=key l r v k j (by omega);simp only [T.setF];exact this
theorem T.get_set {α:Type} (t:T α) (k j:Nat) (x:α):(t.set k x).get j=if j=k then some x else t.get j :=
 T.get_setF _ _ _ _ _ (Nat.lt_succ_self k)
theorem T.get_del {α:Type} (t:T α) (k j:Nat):(t.del k).get j=if j=k then none else t.get j :=
 T.get_setF _ _ _ _ _ (Nat.lt_succ_self k)
theorem T.get_putL {α:Type}:∀(l:List α) (t:T α) (k j:Nat),(T.putL t k l).get j=if k≤j∧j<k+l.length then l[j - k]? else t.get j:=by
 intro l
 induction l with
 | nil=>intro t k j;simp [T.putL];intro h h';omega
 | cons x r ih =>
  intro t k j;simp only [T.putL];rw [ih];simp only [T.get_set,aO]
  by_cases h1:j=k
  ·subst h1;rw [if_neg (by omega),if_pos rfl,if_pos (by omega)];simp
  ·by_cases h2:k≤j∧j<k+(r.length+1)
   ·rw [if_pos (by omega),if_pos h2];obtain ⟨d,hd⟩:∃d,j=k+1+d:=⟨j - k - 1,by omega⟩;subst hd;have a1:k+1+d - (k+1)=d:=by omega
    have a2:k+1+d - k=d+1:=by omega
    rw [a1,a2];rfl
   ·rw [if_neg (by omega),if_neg h1,if_neg h2]
theorem jO {α:Type}:∀(l:List α) (k:Nat),nth l k=l[k]?:=by
 intro l
 induction l with
 | nil=>intro k;rfl
 | cons x r ih=>intro k;cases k with
  | zero=>rfl
  | succ k=>simpa [nth] using ih k
theorem Ga {α:Type}:∀(l:List α) (k:Nat) (x:α),pD l k x=l.set k x:=by
 intro l
 induction l with
 | nil=>intro k x;rfl
 | cons y r ih=>intro k x;cases k with
  | zero=>rfl
  | succ k=>simpa [pD] using ih k x
theorem Hl {α:Type}:∀(l:List α) (k:Nat),As l k=l.eraseIdx k:=by
 intro l
 induction l with
 | nil=>intro k;rfl
 | cons y r ih=>intro k;cases k with
  | zero=>rfl
  | succ k=>simpa [As] using ih k
abbrev Mu:=Nat→Option (Nat×Nat)
abbrev Rho:=Nat→Value
def gg (x:Nat×Nat) (o n:Nat):Cp→Option Value
 | .lit c=>if n≤c then some (.slice (some ⟨x.1,o,none⟩) n c) else none
 | .opn e o'=>if n≤x.2 - e then some (.slice (some ⟨x.1,if x.2 - e=0 then o' else o,none⟩) n (x.2 - e)) else none
mutual
def conc (ρ:Rho) (μ:Mu):V→Option Value
 | .bool b=>some (.bool b)
 | .int k n=>some (.int k n)
 | .str s=>some (.string ⟨s.toArray⟩)
 | .ptr b o=>(μ b).map fun x=>.pointer (some ⟨x.1,o,none⟩)
 | .gp g o=>some (.pointer (some ⟨g,o,none⟩))
 | .nilp=>some (.pointer none)
 | .slice b o n c=>(μ b).bind fun x=>gg x o n c
 | .nils=>some (.slice none 0 0)
 | .gsl a n c=>if n≤c then some (.slice (some a) n c) else none
 | .map b=>(μ b).map fun x=>.map (some x.1)
 | .nilm=>some (.map none)
 | .func f a c=>match cE ρ μ a,cE ρ μ c with
  | some a,some c=>some (.func (.func f) a.toArray c.toArray)
  | _,_=>none
 | .yield b=>(μ b).map fun x=>.func (.yield x.1) #[] #[]
 | .nilf=>some .nilFunc
 | .iface t v=>match conc ρ μ v with
  | some v=>some (.iface t v)
  | none=>none
 | .nili=>some .nilIface
 | .agg cs=>match cE ρ μ cs with
  | some l=>some (.agg l.toArray)
  | none=>none
 | .tuple vs=>match cE ρ μ vs with
  | some l=>some (.tuple l.toArray)
  | none=>none
 | .sym i=>some (ρ i)
def cE (ρ:Rho) (μ:Mu):List V→Option (List Value)
 | []=>some []
 | v::r=>match conc ρ μ v,cE ρ μ r with
  | some x,some l=>some (x::l)
  | _,_=>none
end
def Plain (ρ:Rho):Prop:=∀i,(∀cs,ρ i≠.agg cs)∧(∀vs,ρ i≠.tuple vs)
def Le (μ μ':Mu):Prop:=∀b x,μ b=some x→μ' b=some x
theorem Le.refl (μ:Mu):Le μ μ:=fun _ _ h=>h
theorem Le.trans {a b c:Mu} (h:Le a b) (k:Le b c):Le a c:=fun x y e=>k x y (h x y e)
section
variable {ρ : Rho} {μ μ' : Mu}
mutual
theorem eY (h:Le μ μ'):∀(v:V) (X:Value),conc ρ μ v=some X→conc ρ μ' v=some X
 | .bool _,_,e|.int _ _,_,e|.str _,_,e|.gp _ _,_,e|.gsl _ _ _,_,e|.nilp,_,e|.nils,_,e|.nilm,_,e|.nilf,_,e|.nili,_,e|.sym _,_,e=>by simpa [conc] using e
 | .ptr b o,X,e=>by
  simp only [conc] at e ⊢;obtain ⟨x,hx,rfl⟩:=aR.1 e;rw [h _ _ hx];rfl
 | .slice b o n c,X,e=>by
  simp only [conc] at e ⊢;obtain ⟨x,hx,e⟩:=Option.bind_eq_some_iff.1 e;rw [h _ _ hx];exact e
 | .map b,X,e=>by
  simp only [conc] at e ⊢;obtain ⟨x,hx,rfl⟩:=aR.1 e;rw [h _ _ hx];rfl
 | .yield b,X,e=>by
  simp only [conc] at e ⊢;obtain ⟨x,hx,rfl⟩:=aR.1 e;rw [h _ _ hx];rfl
 | .func f a c,X,e=>by
  simp only [conc] at e ⊢
  cases ha:cE ρ μ a with
  | none=>simp [ha] at e
  | some la =>
   cases hc:cE ρ μ c with
   | none=>simp [ha,hc] at e
   | some lc =>
    rw [qQ h _ _ ha,qQ h _ _ hc];simpa [ha,hc] using e
 | .iface t v,X,e=>by
  simp only [conc] at e ⊢
  cases hv:conc ρ μ v with
  | none=>simp [hv] at e
  | some x=>rw [eY h _ _ hv];simpa [hv] using e
 | .agg cs,X,e=>by
  simp only [conc] at e ⊢
  cases hv:cE ρ μ cs with
  | none=>simp [hv] at e
  | some x=>rw [qQ h _ _ hv];simpa [hv] using e
 | .tuple cs,X,e=>by
  simp only [conc] at e ⊢
  cases hv:cE ρ μ cs with
  | none=>simp [hv] at e
  | some x=>rw [qQ h _ _ hv];simpa [hv] using e
theorem qQ (h:Le μ μ'):∀(v:List V) (X:List Value),cE ρ μ v=some X→cE ρ μ' v=some X
 | [],X,e=>by simpa [cE] using e
 | v::r,X,e=>by
  simp only [cE] at e ⊢
  cases ha:conc ρ μ v with
  | none=>simp [ha] at e
  | some la =>
   cases hc:cE ρ μ r with
   | none=>simp [ha,hc] at e
   | some lc =>
    rw [eY h _ _ ha,qQ h _ _ hc];simpa [ha,hc] using e
end
theorem dQ {v:V} {r:List V} {X:List Value} (e:cE ρ μ (v::r)=some X):∃x l,X=x::l∧conc ρ μ v=some x∧cE ρ μ r=some l:=by
 simp only [cE] at e
 cases ha:conc ρ μ v with
 | none=>simp [ha] at e
 | some la =>
  cases hc:cE ρ μ r with
  | none=>simp [ha,hc] at e
  | some lc=>simp [ha,hc] at e;exact ⟨la,lc,e.symm,rfl,rfl⟩
theorem eM {v:V} {r:List V} {x:Value} {l:List Value} (h:conc ρ μ v=some x) (k:cE ρ μ r=some l):cE ρ μ (v::r)=some (x::l):=by
 simp [cE,h,k]
theorem dc:∀{vs:List V} {X:List Value},cE ρ μ vs=some X→X.length=vs.length
 | [],X,e=>by simp [cE] at e;simp [e]
 | v::r,X,e=>by
  obtain ⟨x,l,rfl,_,h⟩:=dQ e;simp [dc h]
theorem fX:∀{vs:List V} {X:List Value},cE ρ μ vs=some X→∀{i:Nat} {v:V},vs[i]?=some v→∃x,X[i]?=some x∧conc ρ μ v=some x
 | [],X,e,i,v,hi=>by simp at hi
 | v::r,X,e,i,u,hi=>by
  obtain ⟨x,l,rfl,hx,h⟩:=dQ e
  cases i with
  | zero=>simp at hi;subst hi;exact ⟨x,rfl,hx⟩
  | succ i=>simpa using fX h (by simpa using hi)
theorem ku:∀{a b:List V} {X Y:List Value},cE ρ μ a=some X→cE ρ μ b=some Y→cE ρ μ (a++b)=some (X++Y)
 | [],b,X,Y,ha,hb=>by simp [cE] at ha;subst ha;simpa using hb
 | v::r,b,X,Y,ha,hb=>by
  obtain ⟨x,l,rfl,hx,h⟩:=dQ ha;simpa using eM hx (ku h hb)
theorem s9:∀{a:List V} {X:List Value} (n:Nat),cE ρ μ a=some X→cE ρ μ (a.drop n)=some (X.drop n)
 | a,X,0,ha=>by simpa using ha
 | [],X,n+1,ha=>by simp [cE] at ha;subst ha;simp [cE]
 | v::r,X,n+1,ha=>by
  obtain ⟨x,l,rfl,hx,h⟩:=dQ ha;simpa using s9 n h
theorem xW:∀{a:List V} {X:List Value} (n:Nat),cE ρ μ a=some X→cE ρ μ (a.take n)=some (X.take n)
 | a,X,0,ha=>by simp [cE]
 | [],X,n+1,ha=>by simp [cE] at ha;subst ha;simp [cE]
 | v::r,X,n+1,ha=>by
  obtain ⟨x,l,rfl,hx,h⟩:=dQ ha;simpa using eM hx (xW n h)
theorem vg {x:Nat×Nat} {o n:Nat} {c:Cp} {X:Value} (h:gg x o n c=some X):∃a m,X=.slice a n m:=by
 cases c with
 | lit c =>
  simp only [gg] at h
  split at h
  ·injection h with h;exact ⟨_,_,h.symm⟩
  ·cases h
 | opn e o' =>
  simp only [gg] at h
  split at h
  ·injection h with h;exact ⟨_,_,h.symm⟩
  ·cases h
theorem ic (hp:Plain ρ) {v:V} {X:Value} (h:conc ρ μ v=some X):cE ρ μ v.cells=some X.cells.toList:=by
 cases v with
 | agg cs =>
  simp only [conc] at h
  cases hc:cE ρ μ cs with
  | none=>simp [hc] at h
  | some l=>simp [hc] at h;subst h;simp [V.cells,Value.cells,hc]
 | sym i =>
  simp only [conc] at h;injection h with h;subst h;have:=(hp i).1
  have e:(ρ i).cells=#[ρ i]:=by
   cases hi:ρ i<;>simp [Value.cells]
   exact (this _ hi).elim
  simp [V.cells,cE,conc,e]
 | _ =>
  all_goals
   have hh:=h;simp only [conc] at h;simp only [V.cells,cE,hh]
   first
    | (injection h with h;subst h;rfl)
    | (obtain ⟨x,hx,rfl⟩:=aR.1 h;rfl)
    | (obtain ⟨x,hx,h⟩:=Option.bind_eq_some_iff.1 h;obtain ⟨_,_,rfl⟩:=vg h;rfl)
    | (split at h<;>first|(injection h with h;subst h;rfl)|cases h)
theorem xV (hp:Plain ρ) {v:V} {X:Value} (h:conc ρ μ v=some X) (h1:v.one=true):(∀cs,X≠.agg cs)∧(∀vs,X≠.tuple vs):=by
 refine ⟨fun cs e=>?_,fun vs e=>?_⟩<;>subst e<;>cases v<;>simp only [conc,V.one] at h h1 <;>
  first
   | (cases h;done)
   | (cases h1;done)
   | (injection h with h;exact (hp _).1 _ h)
   | (injection h with h;exact (hp _).2 _ h)
   | (obtain ⟨x,hx,h⟩:=aR.1 h;cases h;done)
   | (obtain ⟨x,hx,h⟩:=Option.bind_eq_some_iff.1 h;obtain ⟨_,_,h⟩:=vg h;cases h)
   | (split at h<;>cases h)
theorem kT {x:Value} {v:V} (h:ez x=some v):conc ρ μ v=some x:=by
 unfold ez at h
 split at h<;>first|(injection h with h;subst h;simp [conc])|cases h
theorem sR:∀{l:List Value} {vs:List V},l.mapM ez=some vs→cE ρ μ vs=some l
 | [],vs,h=>by simp at h;subst h;simp [cE]
 | x::r,vs,h=>by
  rw [List.mapM_cons] at h
  cases hx:ez x with
  | none=>simp [hx] at h
  | some v =>
   cases hr:r.mapM ez with
   | none=>simp [hx,hr] at h
   | some l =>
    simp [hx,hr] at h;subst h;exact eM (kT hx) (sR hr)
theorem ju {x:Value} {v:V} (h:ofValue x=some v):conc ρ μ v=some x:=by
 unfold ofValue at h
 split at h
 ·obtain ⟨l,hl,rfl⟩:=aR.1 h;simp [conc,sR hl]
 ·obtain ⟨l,hl,rfl⟩:=aR.1 h;simp [conc,sR hl]
 ·obtain ⟨l,hl,rfl⟩:=aR.1 h;simp [conc,kT hl]
 ·exact kT h
end
end Go.Ev
