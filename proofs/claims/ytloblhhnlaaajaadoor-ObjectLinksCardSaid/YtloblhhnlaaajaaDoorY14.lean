/- What walks of this seat know of its types and functions. -/
import Derived.Test.YtloblhhnlaaajaaDoorY12
import Derived.Test.YtloblhhnlaaajaaDoorProg
import Derived.KernelRfl
set_option linter.unusedVariables false
set_option linter.unusedSimpArgs false
set_option linter.defProp false
namespace Go.Proofs.OP
open Go Go.Ev
open Go.Proofs
def es:List Nat:=[35,41,43,95,97,199]
def fl:List Nat:=List.range 9++List.range' 10 77++List.range' 88 84
def sk:List (Nat×Nat×Nat):=[(87,113,9),(87,115,9)]
@[irreducible] noncomputable def E (g : T (List V)) : Env := iy Tryd.prog (List.range 275) fl [] [9] es sk g
variable {g : T (List V)}
theorem dN:(E g).tys=pX Tryd.prog (List.range 275):=by unfold E iy;dsimp only
theorem dg:(E g).fns=nh Tryd.prog fl:=by unfold E iy;dsimp only
theorem E_87:(E g).fns.get 87=none:=by rw [dg];exact Dw (by kernel_rfl)
theorem E_9:(E g).fns.get 9=none:=by rw [dg];exact Dw (by kernel_rfl)
theorem yd {h:H} {Q:V→H→Prop} (k:Q (.bool true) {t:=.lf,bX:=h.bX}):WF (E g) 9 [] h Q :=
 WF.done E_9 (by unfold E iy;rfl) (by unfold E iy;exact T.get_lf 9) (by unfold E iy;rfl) k
theorem ty2:(E g).tys.get 2=some {desc:=.int .i64,size:=1,bytes:=8,zero:=[.int .i64 0],zv:=.int .i64 0,cmp:=true}:=by rw [dN];exact dM (by kernel_rfl) rfl
theorem ty3:(E g).tys.get 3=some {desc:=.int .i64,size:=1,bytes:=8,zero:=[.int .i64 0],zv:=.int .i64 0,cmp:=true}:=by rw [dN];exact dM (by kernel_rfl) rfl
theorem ty4:(E g).tys.get 4=some {desc:=.bool,size:=1,bytes:=1,zero:=[.bool false],zv:=.bool false,cmp:=true}:=by rw [dN];exact dM (by kernel_rfl) rfl
theorem ty5:(E g).tys.get 5=some {desc:=.int .u8,size:=1,bytes:=1,zero:=[.int .u8 0],zv:=.int .u8 0,cmp:=true}:=by rw [dN];exact dM (by kernel_rfl) rfl
theorem ty9:(E g).tys.get 9=some {desc:=.string,size:=1,bytes:=16,zero:=[.str []],zv:=.str [],cmp:=true}:=by rw [dN];exact dM (by kernel_rfl) rfl
theorem cM:(E g).tys.get 27=some {desc:=.slice 5,size:=1,bytes:=24,zero:=[.nils],zv:=.nils,cmp:=false}:=by rw [dN];exact dM (by kernel_rfl) rfl
theorem cD:(E g).tys.get 30=some {desc:=.slice 9,size:=1,bytes:=24,zero:=[.nils],zv:=.nils,cmp:=false}:=by rw [dN];exact dM (by kernel_rfl) rfl
theorem mG:(E g).tys.get 33=some {desc:=.int .i64,size:=1,bytes:=8,zero:=[.int .i64 0],zv:=.int .i64 0,cmp:=true}:=by rw [dN];exact dM (by kernel_rfl) rfl
theorem gu:(E g).tys.get 67=some {desc:=.slice 132,size:=1,bytes:=24,zero:=[.nils],zv:=.nils,cmp:=false}:=by rw [dN];exact dM (by kernel_rfl) rfl
theorem gt:(E g).tys.get 68=some {desc:=.slice 127,size:=1,bytes:=24,zero:=[.nils],zv:=.nils,cmp:=false}:=by rw [dN];exact dM (by kernel_rfl) rfl
theorem eP:(E g).tys.get 70=some {desc:=.struct #[⟨ "Name",9,0,false, "", "",0⟩,⟨ "Code",27,1,false, "", "",16⟩,⟨ "Data",27,2,false, "", "",40⟩,⟨ "Symbols",67,3,false, "", "",64⟩,⟨ "Relocs",68,4,false, "", "",88⟩,⟨ "Needs",30,5,false, "", "",112⟩,⟨ "Entry",9,6,false, "", "",136⟩],size:=7,bytes:=152,zero:=[.str [],.nils,.nils,.nils,.nils,.nils,.str []],zv:=.agg [.str [],.nils,.nils,.nils,.nils,.nils,.str []],cmp:=false}:=by rw [dN];exact dM (by kernel_rfl) rfl
theorem nj {b o:Nat}:cu (E g) 70 (.ptr b o) 0=some (.ptr b (o+0)):=cw (fd:=⟨ "Name",9,0,false, "", "",0⟩) eP rfl rfl ty9 (by decide)
theorem jm {b o:Nat}:cu (E g) 70 (.ptr b o) 1=some (.ptr b (o+1)):=cw (fd:=⟨ "Code",27,1,false, "", "",16⟩) eP rfl rfl cM (by decide)
theorem jl {b o:Nat}:cu (E g) 70 (.ptr b o) 2=some (.ptr b (o+2)):=cw (fd:=⟨ "Data",27,2,false, "", "",40⟩) eP rfl rfl cM (by decide)
theorem iw {b o:Nat}:cu (E g) 70 (.ptr b o) 3=some (.ptr b (o+3)):=cw (fd:=⟨ "Symbols",67,3,false, "", "",64⟩) eP rfl rfl gu (by decide)
theorem iv {b o:Nat}:cu (E g) 70 (.ptr b o) 4=some (.ptr b (o+4)):=cw (fd:=⟨ "Relocs",68,4,false, "", "",88⟩) eP rfl rfl gt (by decide)
theorem iW {b o:Nat}:cu (E g) 70 (.ptr b o) 5=some (.ptr b (o+5)):=cw (fd:=⟨ "Needs",30,5,false, "", "",112⟩) eP rfl rfl cD (by decide)
theorem hJ {b o:Nat}:cu (E g) 70 (.ptr b o) 6=some (.ptr b (o+6)):=cw (fd:=⟨ "Entry",9,6,false, "", "",136⟩) eP rfl rfl ty9 (by decide)
theorem oO:(E g).tys.get 74=some {desc:=.slice 95,size:=1,bytes:=24,zero:=[.nils],zv:=.nils,cmp:=false}:=by rw [dN];exact dM (by kernel_rfl) rfl
theorem mF:(E g).tys.get 75=some {desc:=.slice 97,size:=1,bytes:=24,zero:=[.nils],zv:=.nils,cmp:=false}:=by rw [dN];exact dM (by kernel_rfl) rfl
theorem iq:(E g).tys.get 77=some {desc:=.struct #[⟨ "Name",9,0,false, "", "",0⟩,⟨ "Code",27,1,false, "", "",16⟩,⟨ "Data",27,2,false, "", "",40⟩,⟨ "Symbols",74,3,false, "", "",64⟩,⟨ "Relocs",75,4,false, "", "",88⟩,⟨ "Needs",30,5,false, "", "",112⟩,⟨ "Entry",9,6,false, "", "",136⟩],size:=7,bytes:=152,zero:=[.str [],.nils,.nils,.nils,.nils,.nils,.str []],zv:=.agg [.str [],.nils,.nils,.nils,.nils,.nils,.str []],cmp:=false}:=by rw [dN];exact dM (by kernel_rfl) rfl
theorem fa77_0 {b o:Nat}:cu (E g) 77 (.ptr b o) 0=some (.ptr b (o+0)):=cw (fd:=⟨ "Name",9,0,false, "", "",0⟩) iq rfl rfl ty9 (by decide)
theorem xG {b o:Nat}:cu (E g) 77 (.ptr b o) 1=some (.ptr b (o+1)):=cw (fd:=⟨ "Code",27,1,false, "", "",16⟩) iq rfl rfl cM (by decide)
theorem xE {b o:Nat}:cu (E g) 77 (.ptr b o) 2=some (.ptr b (o+2)):=cw (fd:=⟨ "Data",27,2,false, "", "",40⟩) iq rfl rfl cM (by decide)
theorem pO {b o:Nat}:cu (E g) 77 (.ptr b o) 3=some (.ptr b (o+3)):=cw (fd:=⟨ "Symbols",74,3,false, "", "",64⟩) iq rfl rfl oO (by decide)
theorem qL {b o:Nat}:cu (E g) 77 (.ptr b o) 4=some (.ptr b (o+4)):=cw (fd:=⟨ "Relocs",75,4,false, "", "",88⟩) iq rfl rfl mF (by decide)
theorem An {b o:Nat}:cu (E g) 77 (.ptr b o) 5=some (.ptr b (o+5)):=cw (fd:=⟨ "Needs",30,5,false, "", "",112⟩) iq rfl rfl cD (by decide)
theorem oL {b o:Nat}:cu (E g) 77 (.ptr b o) 6=some (.ptr b (o+6)):=cw (fd:=⟨ "Entry",9,6,false, "", "",136⟩) iq rfl rfl ty9 (by decide)
theorem j5:(E g).tys.get 95=some {desc:=.struct #[⟨ "Name",9,0,false, "", "",0⟩,⟨ "Section",3,1,false, "", "",16⟩,⟨ "Offset",2,2,false, "", "",24⟩,⟨ "Global",4,3,false, "", "",32⟩,⟨ "Weak",4,4,false, "", "",33⟩],size:=5,bytes:=40,zero:=[.str [],.int .i64 0,.int .i64 0,.bool false,.bool false],zv:=.agg [.str [],.int .i64 0,.int .i64 0,.bool false,.bool false],cmp:=true}:=by rw [dN];exact dM (by kernel_rfl) rfl
theorem kf {b o:Nat}:cu (E g) 95 (.ptr b o) 0=some (.ptr b (o+0)):=cw (fd:=⟨ "Name",9,0,false, "", "",0⟩) j5 rfl rfl ty9 (by decide)
theorem eV {b o:Nat}:cu (E g) 95 (.ptr b o) 1=some (.ptr b (o+1)):=cw (fd:=⟨ "Section",3,1,false, "", "",16⟩) j5 rfl rfl ty3 (by decide)
theorem fg95_1 {b o:Nat}:cu (E g) 95 (.gp b o) 1=some (.gp b (o+1)):=iI (fd:=⟨ "Section",3,1,false, "", "",16⟩) j5 rfl rfl ty3 (by decide)
theorem kH {b o:Nat}:cu (E g) 95 (.ptr b o) 2=some (.ptr b (o+2)):=cw (fd:=⟨ "Offset",2,2,false, "", "",24⟩) j5 rfl rfl ty2 (by decide)
theorem pN {b o:Nat}:cu (E g) 95 (.ptr b o) 3=some (.ptr b (o+3)):=cw (fd:=⟨ "Global",4,3,false, "", "",32⟩) j5 rfl rfl ty4 (by decide)
theorem fg95_3 {b o:Nat}:cu (E g) 95 (.gp b o) 3=some (.gp b (o+3)):=iI (fd:=⟨ "Global",4,3,false, "", "",32⟩) j5 rfl rfl ty4 (by decide)
theorem jR {b o:Nat}:cu (E g) 95 (.ptr b o) 4=some (.ptr b (o+4)):=cw (fd:=⟨ "Weak",4,4,false, "", "",33⟩) j5 rfl rfl ty4 (by decide)
theorem qd:(E g).tys.get 97=some {desc:=.struct #[⟨ "Section",3,0,false, "", "",0⟩,⟨ "Offset",2,1,false, "", "",8⟩,⟨ "Kind",3,2,false, "", "",16⟩,⟨ "Symbol",9,3,false, "", "",24⟩,⟨ "Addend",2,4,false, "", "",40⟩],size:=5,bytes:=48,zero:=[.int .i64 0,.int .i64 0,.int .i64 0,.str [],.int .i64 0],zv:=.agg [.int .i64 0,.int .i64 0,.int .i64 0,.str [],.int .i64 0],cmp:=true}:=by rw [dN];exact dM (by kernel_rfl) rfl
theorem iV {b o:Nat}:cu (E g) 97 (.ptr b o) 0=some (.ptr b (o+0)):=cw (fd:=⟨ "Section",3,0,false, "", "",0⟩) qd rfl rfl ty3 (by decide)
theorem iU {b o:Nat}:cu (E g) 97 (.ptr b o) 1=some (.ptr b (o+1)):=cw (fd:=⟨ "Offset",2,1,false, "", "",8⟩) qd rfl rfl ty2 (by decide)
theorem ni {b o:Nat}:cu (E g) 97 (.ptr b o) 2=some (.ptr b (o+2)):=cw (fd:=⟨ "Kind",3,2,false, "", "",16⟩) qd rfl rfl ty3 (by decide)
theorem uD {b o:Nat}:cu (E g) 97 (.ptr b o) 3=some (.ptr b (o+3)):=cw (fd:=⟨ "Symbol",9,3,false, "", "",24⟩) qd rfl rfl ty9 (by decide)
theorem jQ {b o:Nat}:cu (E g) 97 (.ptr b o) 4=some (.ptr b (o+4)):=cw (fd:=⟨ "Addend",2,4,false, "", "",40⟩) qd rfl rfl ty2 (by decide)
theorem ii:(E g).tys.get 127=some {desc:=.struct #[⟨ "Section",3,0,false, "", "",0⟩,⟨ "Offset",2,1,false, "", "",8⟩,⟨ "Kind",3,2,false, "", "",16⟩,⟨ "Symbol",9,3,false, "", "",24⟩,⟨ "Addend",2,4,false, "", "",40⟩],size:=5,bytes:=48,zero:=[.int .i64 0,.int .i64 0,.int .i64 0,.str [],.int .i64 0],zv:=.agg [.int .i64 0,.int .i64 0,.int .i64 0,.str [],.int .i64 0],cmp:=true}:=by rw [dN];exact dM (by kernel_rfl) rfl
theorem je {b o:Nat}:cu (E g) 127 (.ptr b o) 0=some (.ptr b (o+0)):=cw (fd:=⟨ "Section",3,0,false, "", "",0⟩) ii rfl rfl ty3 (by decide)
theorem jd {b o:Nat}:cu (E g) 127 (.ptr b o) 1=some (.ptr b (o+1)):=cw (fd:=⟨ "Offset",2,1,false, "", "",8⟩) ii rfl rfl ty2 (by decide)
theorem jc {b o:Nat}:cu (E g) 127 (.ptr b o) 2=some (.ptr b (o+2)):=cw (fd:=⟨ "Kind",3,2,false, "", "",16⟩) ii rfl rfl ty3 (by decide)
theorem oo {b o:Nat}:cu (E g) 127 (.ptr b o) 3=some (.ptr b (o+3)):=cw (fd:=⟨ "Symbol",9,3,false, "", "",24⟩) ii rfl rfl ty9 (by decide)
theorem jw {b o:Nat}:cu (E g) 127 (.ptr b o) 4=some (.ptr b (o+4)):=cw (fd:=⟨ "Addend",2,4,false, "", "",40⟩) ii rfl rfl ty2 (by decide)
theorem eg:(E g).tys.get 132=some {desc:=.struct #[⟨ "Name",9,0,false, "", "",0⟩,⟨ "Section",3,1,false, "", "",16⟩,⟨ "Offset",2,2,false, "", "",24⟩,⟨ "Global",4,3,false, "", "",32⟩,⟨ "Weak",4,4,false, "", "",33⟩],size:=5,bytes:=40,zero:=[.str [],.int .i64 0,.int .i64 0,.bool false,.bool false],zv:=.agg [.str [],.int .i64 0,.int .i64 0,.bool false,.bool false],cmp:=true}:=by rw [dN];exact dM (by kernel_rfl) rfl
theorem ry {b o:Nat}:cu (E g) 132 (.ptr b o) 0=some (.ptr b (o+0)):=cw (fd:=⟨ "Name",9,0,false, "", "",0⟩) eg rfl rfl ty9 (by decide)
theorem dz {b o:Nat}:cu (E g) 132 (.ptr b o) 1=some (.ptr b (o+1)):=cw (fd:=⟨ "Section",3,1,false, "", "",16⟩) eg rfl rfl ty3 (by decide)
theorem iJ {b o:Nat}:cu (E g) 132 (.ptr b o) 2=some (.ptr b (o+2)):=cw (fd:=⟨ "Offset",2,2,false, "", "",24⟩) eg rfl rfl ty2 (by decide)
theorem eC {b o:Nat}:cu (E g) 132 (.ptr b o) 3=some (.ptr b (o+3)):=cw (fd:=⟨ "Global",4,3,false, "", "",32⟩) eg rfl rfl ty4 (by decide)
theorem fH {b o:Nat}:cu (E g) 132 (.ptr b o) 4=some (.ptr b (o+4)):=cw (fd:=⟨ "Weak",4,4,false, "", "",33⟩) eg rfl rfl ty4 (by decide)
theorem ty168:(E g).tys.get 168=some {desc:=.map 9 3,size:=1,bytes:=8,zero:=[.nilm],zv:=.nilm,cmp:=false}:=by rw [dN];exact dM (by kernel_rfl) rfl
theorem AP:(E g).tys.get 188=some {desc:=.struct #[],size:=0,bytes:=0,zero:=[],zv:=.agg [],cmp:=true}:=by rw [dN];exact dM (by kernel_rfl) rfl
theorem tp:(E g).tys.get 191=some {desc:=.int .u32,size:=1,bytes:=4,zero:=[.int .u32 0],zv:=.int .u32 0,cmp:=true}:=by rw [dN];exact dM (by kernel_rfl) rfl
theorem rP:(E g).tys.get 194=some {desc:=.int .u64,size:=1,bytes:=8,zero:=[.int .u64 0],zv:=.int .u64 0,cmp:=true}:=by rw [dN];exact dM (by kernel_rfl) rfl
theorem HK:(E g).tys.get 195=some {desc:=.slice 4,size:=1,bytes:=24,zero:=[.nils],zv:=.nils,cmp:=false}:=by rw [dN];exact dM (by kernel_rfl) rfl
theorem HJ:(E g).tys.get 199=some {desc:=.array 4 5,size:=4,bytes:=4,zero:=[.int .u8 0,.int .u8 0,.int .u8 0,.int .u8 0],zv:=.agg [.int .u8 0,.int .u8 0,.int .u8 0,.int .u8 0],cmp:=true}:=by rw [dN];exact dM (by kernel_rfl) rfl
theorem ty200:(E g).tys.get 200=some {desc:=.array 2 199,size:=8,bytes:=8,zero:=[.int .u8 0,.int .u8 0,.int .u8 0,.int .u8 0,.int .u8 0,.int .u8 0,.int .u8 0,.int .u8 0],zv:=.agg [.int .u8 0,.int .u8 0,.int .u8 0,.int .u8 0,.int .u8 0,.int .u8 0,.int .u8 0,.int .u8 0],cmp:=true}:=by rw [dN];exact dM (by kernel_rfl) rfl
theorem ty202:(E g).tys.get 202=some {desc:=.struct #[⟨ "b",27,0,false, "", "orpiment/object",0⟩],size:=1,bytes:=24,zero:=[.nils],zv:=.agg [.nils],cmp:=false}:=by rw [dN];exact dM (by kernel_rfl) rfl
theorem ol {b o:Nat}:cu (E g) 202 (.ptr b o) 0=some (.ptr b (o+0)):=cw (fd:=⟨ "b",27,0,false, "", "orpiment/object",0⟩) ty202 rfl rfl cM (by decide)
theorem ti:(E g).tys.get 203=some {desc:=.slice 2,size:=1,bytes:=24,zero:=[.nils],zv:=.nils,cmp:=false}:=by rw [dN];exact dM (by kernel_rfl) rfl
theorem DX:(E g).tys.get 205=some {desc:=.slice 27,size:=1,bytes:=24,zero:=[.nils],zv:=.nils,cmp:=false}:=by rw [dN];exact dM (by kernel_rfl) rfl
theorem vS:(E g).tys.get 221=some {desc:=.array 2 3,size:=2,bytes:=16,zero:=[.int .i64 0,.int .i64 0],zv:=.agg [.int .i64 0,.int .i64 0],cmp:=true}:=by rw [dN];exact dM (by kernel_rfl) rfl
theorem HI:(E g).tys.get 222=some {desc:=.slice 221,size:=1,bytes:=24,zero:=[.nils],zv:=.nils,cmp:=false}:=by rw [dN];exact dM (by kernel_rfl) rfl
theorem fn3:(E g).fns.get 3=some {nt:=214,body:=Tryd.f3.body.get!,res:=[.tmp 4]}:=by rw [dg];exact dt (FI.of_mk Tryd.func3 (show Tryd.f3.body=some Tryd.f3.body.get! by kernel_rfl) (by kernel_rfl) (show Tryd.f3.ntmps=214 by kernel_rfl) (show Tryd.f3.results.toList=[.tmp 4] by kernel_rfl)) rfl
theorem fn5:(E g).fns.get 5=some {nt:=66,body:=Tryd.f5.body.get!,res:=[.tmp 4]}:=by rw [dg];exact dt (FI.of_mk Tryd.func5 (show Tryd.f5.body=some Tryd.f5.body.get! by kernel_rfl) (by kernel_rfl) (show Tryd.f5.ntmps=66 by kernel_rfl) (show Tryd.f5.results.toList=[.tmp 4] by kernel_rfl)) rfl
theorem fn22:(E g).fns.get 22=some {nt:=84,body:=Tryd.f22.body.get!,res:=[.tmp 2]}:=by rw [dg];exact dt (FI.of_mk Tryd.func22 (show Tryd.f22.body=some Tryd.f22.body.get! by kernel_rfl) (by kernel_rfl) (show Tryd.f22.ntmps=84 by kernel_rfl) (show Tryd.f22.results.toList=[.tmp 2] by kernel_rfl)) rfl
theorem fn23:(E g).fns.get 23=some {nt:=291,body:=Tryd.f23.body.get!,res:=[.tmp 2]}:=by rw [dg];exact dt (FI.of_mk Tryd.func23 (show Tryd.f23.body=some Tryd.f23.body.get! by kernel_rfl) (by kernel_rfl) (show Tryd.f23.ntmps=291 by kernel_rfl) (show Tryd.f23.results.toList=[.tmp 2] by kernel_rfl)) rfl
theorem fn25:(E g).fns.get 25=some {nt:=54,body:=Tryd.f25.body.get!,res:=[.cell 2 77]}:=by rw [dg];exact dt (FI.of_mk Tryd.func25 (show Tryd.f25.body=some Tryd.f25.body.get! by kernel_rfl) (by kernel_rfl) (show Tryd.f25.ntmps=54 by kernel_rfl) (show Tryd.f25.results.toList=[.cell 2 77] by kernel_rfl)) rfl
theorem fn31:(E g).fns.get 31=some {nt:=123,body:=Tryd.f31.body.get!,res:=[.tmp 2]}:=by rw [dg];exact dt (FI.of_mk Tryd.func31 (show Tryd.f31.body=some Tryd.f31.body.get! by kernel_rfl) (by kernel_rfl) (show Tryd.f31.ntmps=123 by kernel_rfl) (show Tryd.f31.results.toList=[.tmp 2] by kernel_rfl)) rfl
theorem fn44:(E g).fns.get 44=some {nt:=8,body:=Tryd.f44.body.get!,res:=[.tmp 2]}:=by rw [dg];exact dt (FI.of_mk Tryd.func44 (show Tryd.f44.body=some Tryd.f44.body.get! by kernel_rfl) (by kernel_rfl) (show Tryd.f44.ntmps=8 by kernel_rfl) (show Tryd.f44.results.toList=[.tmp 2] by kernel_rfl)) rfl
theorem fn48:(E g).fns.get 48=some {nt:=24,body:=Tryd.f48.body.get!,res:=[.tmp 6]}:=by rw [dg];exact dt (FI.of_mk Tryd.func48 (show Tryd.f48.body=some Tryd.f48.body.get! by kernel_rfl) (by kernel_rfl) (show Tryd.f48.ntmps=24 by kernel_rfl) (show Tryd.f48.results.toList=[.tmp 6] by kernel_rfl)) rfl
theorem fn51:(E g).fns.get 51=some {nt:=26,body:=Tryd.f51.body.get!,res:=[.tmp 4]}:=by rw [dg];exact dt (FI.of_mk Tryd.func51 (show Tryd.f51.body=some Tryd.f51.body.get! by kernel_rfl) (by kernel_rfl) (show Tryd.f51.ntmps=26 by kernel_rfl) (show Tryd.f51.results.toList=[.tmp 4] by kernel_rfl)) rfl
theorem fn53:(E g).fns.get 53=some {nt:=9,body:=Tryd.f53.body.get!,res:=[.tmp 2]}:=by rw [dg];exact dt (FI.of_mk Tryd.func53 (show Tryd.f53.body=some Tryd.f53.body.get! by kernel_rfl) (by kernel_rfl) (show Tryd.f53.ntmps=9 by kernel_rfl) (show Tryd.f53.results.toList=[.tmp 2] by kernel_rfl)) rfl
theorem fn54:(E g).fns.get 54=some {nt:=24,body:=Tryd.f54.body.get!,res:=[]}:=by rw [dg];exact dt (FI.of_mk Tryd.func54 (show Tryd.f54.body=some Tryd.f54.body.get! by kernel_rfl) (by kernel_rfl) (show Tryd.f54.ntmps=24 by kernel_rfl) (show Tryd.f54.results.toList=[] by kernel_rfl)) rfl
theorem fn55:(E g).fns.get 55=some {nt:=27,body:=Tryd.f55.body.get!,res:=[]}:=by rw [dg];exact dt (FI.of_mk Tryd.func55 (show Tryd.f55.body=some Tryd.f55.body.get! by kernel_rfl) (by kernel_rfl) (show Tryd.f55.ntmps=27 by kernel_rfl) (show Tryd.f55.results.toList=[] by kernel_rfl)) rfl
theorem fn56:(E g).fns.get 56=some {nt:=18,body:=Tryd.f56.body.get!,res:=[]}:=by rw [dg];exact dt (FI.of_mk Tryd.func56 (show Tryd.f56.body=some Tryd.f56.body.get! by kernel_rfl) (by kernel_rfl) (show Tryd.f56.ntmps=18 by kernel_rfl) (show Tryd.f56.results.toList=[] by kernel_rfl)) rfl
theorem fn57:(E g).fns.get 57=some {nt:=14,body:=Tryd.f57.body.get!,res:=[.tmp 2]}:=by rw [dg];exact dt (FI.of_mk Tryd.func57 (show Tryd.f57.body=some Tryd.f57.body.get! by kernel_rfl) (by kernel_rfl) (show Tryd.f57.ntmps=14 by kernel_rfl) (show Tryd.f57.results.toList=[.tmp 2] by kernel_rfl)) rfl
theorem fn59:(E g).fns.get 59=some {nt:=8,body:=Tryd.f59.body.get!,res:=[.tmp 4]}:=by rw [dg];exact dt (FI.of_mk Tryd.func59 (show Tryd.f59.body=some Tryd.f59.body.get! by kernel_rfl) (by kernel_rfl) (show Tryd.f59.ntmps=8 by kernel_rfl) (show Tryd.f59.results.toList=[.tmp 4] by kernel_rfl)) rfl
theorem fn60:(E g).fns.get 60=some {nt:=11,body:=Tryd.f60.body.get!,res:=[.tmp 4]}:=by rw [dg];exact dt (FI.of_mk Tryd.func60 (show Tryd.f60.body=some Tryd.f60.body.get! by kernel_rfl) (by kernel_rfl) (show Tryd.f60.ntmps=11 by kernel_rfl) (show Tryd.f60.results.toList=[.tmp 4] by kernel_rfl)) rfl
theorem fn61:(E g).fns.get 61=some {nt:=19,body:=Tryd.f61.body.get!,res:=[.tmp 2]}:=by rw [dg];exact dt (FI.of_mk Tryd.func61 (show Tryd.f61.body=some Tryd.f61.body.get! by kernel_rfl) (by kernel_rfl) (show Tryd.f61.ntmps=19 by kernel_rfl) (show Tryd.f61.results.toList=[.tmp 2] by kernel_rfl)) rfl
theorem fn62:(E g).fns.get 62=some {nt:=8,body:=Tryd.f62.body.get!,res:=[.tmp 2]}:=by rw [dg];exact dt (FI.of_mk Tryd.func62 (show Tryd.f62.body=some Tryd.f62.body.get! by kernel_rfl) (by kernel_rfl) (show Tryd.f62.ntmps=8 by kernel_rfl) (show Tryd.f62.results.toList=[.tmp 2] by kernel_rfl)) rfl
theorem fn63:(E g).fns.get 63=some {nt:=11,body:=Tryd.f63.body.get!,res:=[.tmp 4]}:=by rw [dg];exact dt (FI.of_mk Tryd.func63 (show Tryd.f63.body=some Tryd.f63.body.get! by kernel_rfl) (by kernel_rfl) (show Tryd.f63.ntmps=11 by kernel_rfl) (show Tryd.f63.results.toList=[.tmp 4] by kernel_rfl)) rfl
theorem fn64:(E g).fns.get 64=some {nt:=22,body:=Tryd.f64.body.get!,res:=[.cell 4 132,.tmp 5]}:=by rw [dg];exact dt (FI.of_mk Tryd.func64 (show Tryd.f64.body=some Tryd.f64.body.get! by kernel_rfl) (by kernel_rfl) (show Tryd.f64.ntmps=22 by kernel_rfl) (show Tryd.f64.results.toList=[.cell 4 132,.tmp 5] by kernel_rfl)) rfl
theorem fn79:(E g).fns.get 79=some {nt:=47,body:=Tryd.f79.body.get!,res:=[.tmp 2]}:=by rw [dg];exact dt (FI.of_mk Tryd.func79 (show Tryd.f79.body=some Tryd.f79.body.get! by kernel_rfl) (by kernel_rfl) (show Tryd.f79.ntmps=47 by kernel_rfl) (show Tryd.f79.results.toList=[.tmp 2] by kernel_rfl)) rfl
theorem fn80:(E g).fns.get 80=some {nt:=16,body:=Tryd.f80.body.get!,res:=[.tmp 4]}:=by rw [dg];exact dt (FI.of_mk Tryd.func80 (show Tryd.f80.body=some Tryd.f80.body.get! by kernel_rfl) (by kernel_rfl) (show Tryd.f80.ntmps=16 by kernel_rfl) (show Tryd.f80.results.toList=[.tmp 4] by kernel_rfl)) rfl
theorem fn81:(E g).fns.get 81=some {nt:=61,body:=Tryd.f81.body.get!,res:=[.tmp 6]}:=by rw [dg];exact dt (FI.of_mk Tryd.func81 (show Tryd.f81.body=some Tryd.f81.body.get! by kernel_rfl) (by kernel_rfl) (show Tryd.f81.ntmps=61 by kernel_rfl) (show Tryd.f81.results.toList=[.tmp 6] by kernel_rfl)) rfl
theorem fn82:(E g).fns.get 82=some {nt:=79,body:=Tryd.f82.body.get!,res:=[.tmp 6]}:=by rw [dg];exact dt (FI.of_mk Tryd.func82 (show Tryd.f82.body=some Tryd.f82.body.get! by kernel_rfl) (by kernel_rfl) (show Tryd.f82.ntmps=79 by kernel_rfl) (show Tryd.f82.results.toList=[.tmp 6] by kernel_rfl)) rfl
theorem fn83:(E g).fns.get 83=some {nt:=9,body:=Tryd.f83.body.get!,res:=[.tmp 4]}:=by rw [dg];exact dt (FI.of_mk Tryd.func83 (show Tryd.f83.body=some Tryd.f83.body.get! by kernel_rfl) (by kernel_rfl) (show Tryd.f83.ntmps=9 by kernel_rfl) (show Tryd.f83.results.toList=[.tmp 4] by kernel_rfl)) rfl
theorem fn86:(E g).fns.get 86=some {nt:=20,body:=Tryd.f86.body.get!,res:=[.tmp 4]}:=by rw [dg];exact dt (FI.of_mk Tryd.func86 (show Tryd.f86.body=some Tryd.f86.body.get! by kernel_rfl) (by kernel_rfl) (show Tryd.f86.ntmps=20 by kernel_rfl) (show Tryd.f86.results.toList=[.tmp 4] by kernel_rfl)) rfl
theorem fn90:(E g).fns.get 90=some {nt:=3,body:=Tryd.f90.body.get!,res:=[.cell 0 188]}:=by rw [dg];exact dt (FI.of_mk Tryd.func90 (show Tryd.f90.body=some Tryd.f90.body.get! by kernel_rfl) (by kernel_rfl) (show Tryd.f90.ntmps=3 by kernel_rfl) (show Tryd.f90.results.toList=[.cell 0 188] by kernel_rfl)) rfl
theorem fn96:(E g).fns.get 96=some {nt:=10,body:=Tryd.f96.body.get!,res:=[.tmp 6]}:=by rw [dg];exact dt (FI.of_mk Tryd.func96 (show Tryd.f96.body=some Tryd.f96.body.get! by kernel_rfl) (by kernel_rfl) (show Tryd.f96.ntmps=10 by kernel_rfl) (show Tryd.f96.results.toList=[.tmp 6] by kernel_rfl)) rfl
theorem fn97:(E g).fns.get 97=some {nt:=11,body:=Tryd.f97.body.get!,res:=[.tmp 6]}:=by rw [dg];exact dt (FI.of_mk Tryd.func97 (show Tryd.f97.body=some Tryd.f97.body.get! by kernel_rfl) (by kernel_rfl) (show Tryd.f97.ntmps=11 by kernel_rfl) (show Tryd.f97.results.toList=[.tmp 6] by kernel_rfl)) rfl
theorem fn98:(E g).fns.get 98=some {nt:=18,body:=Tryd.f98.body.get!,res:=[.tmp 2]}:=by rw [dg];exact dt (FI.of_mk Tryd.func98 (show Tryd.f98.body=some Tryd.f98.body.get! by kernel_rfl) (by kernel_rfl) (show Tryd.f98.ntmps=18 by kernel_rfl) (show Tryd.f98.results.toList=[.tmp 2] by kernel_rfl)) rfl
theorem fn103:(E g).fns.get 103=some {nt:=19,body:=Tryd.f103.body.get!,res:=[.tmp 4]}:=by rw [dg];exact dt (FI.of_mk Tryd.func103 (show Tryd.f103.body=some Tryd.f103.body.get! by kernel_rfl) (by kernel_rfl) (show Tryd.f103.ntmps=19 by kernel_rfl) (show Tryd.f103.results.toList=[.tmp 4] by kernel_rfl)) rfl
theorem fn109:(E g).fns.get 109=some {nt:=9,body:=Tryd.f109.body.get!,res:=[.tmp 4]}:=by rw [dg];exact dt (FI.of_mk Tryd.func109 (show Tryd.f109.body=some Tryd.f109.body.get! by kernel_rfl) (by kernel_rfl) (show Tryd.f109.ntmps=9 by kernel_rfl) (show Tryd.f109.results.toList=[.tmp 4] by kernel_rfl)) rfl
theorem fn110:(E g).fns.get 110=some {nt:=25,body:=Tryd.f110.body.get!,res:=[.tmp 3]}:=by rw [dg];exact dt (FI.of_mk Tryd.func110 (show Tryd.f110.body=some Tryd.f110.body.get! by kernel_rfl) (by kernel_rfl) (show Tryd.f110.ntmps=25 by kernel_rfl) (show Tryd.f110.results.toList=[.tmp 3] by kernel_rfl)) rfl
theorem fn114:(E g).fns.get 114=some {nt:=19,body:=Tryd.f114.body.get!,res:=[]}:=by rw [dg];exact dt (FI.of_mk Tryd.func114 (show Tryd.f114.body=some Tryd.f114.body.get! by kernel_rfl) (by kernel_rfl) (show Tryd.f114.ntmps=19 by kernel_rfl) (show Tryd.f114.results.toList=[] by kernel_rfl)) rfl
theorem fn118:(E g).fns.get 118=some {nt:=19,body:=Tryd.f118.body.get!,res:=[.tmp 6]}:=by rw [dg];exact dt (FI.of_mk Tryd.func118 (show Tryd.f118.body=some Tryd.f118.body.get! by kernel_rfl) (by kernel_rfl) (show Tryd.f118.ntmps=19 by kernel_rfl) (show Tryd.f118.results.toList=[.tmp 6] by kernel_rfl)) rfl
theorem fn125:(E g).fns.get 125=some {nt:=19,body:=Tryd.f125.body.get!,res:=[.tmp 4]}:=by rw [dg];exact dt (FI.of_mk Tryd.func125 (show Tryd.f125.body=some Tryd.f125.body.get! by kernel_rfl) (by kernel_rfl) (show Tryd.f125.ntmps=19 by kernel_rfl) (show Tryd.f125.results.toList=[.tmp 4] by kernel_rfl)) rfl
end Go.Proofs.OP
