/- The library's sorting of the keys of a map, at this seat's program: what the shelf asks of it, laid in plain words. -/
import Derived.Test.YtloblhhnlaaajaaDoorY23
set_option maxRecDepth 100000
set_option linter.unusedVariables false
set_option linter.unusedSimpArgs false
set_option linter.defProp false
namespace Go.Proofs.OP
open Go Go.Ev Go.Proofs Go.Shelf
def qG:Go.Shelf.Ren:=⟨fun|10=>113|n=>n,fun|33=>226|23=>102|0=>0|4=>4|26=>9|3=>2|n=>n,fun|n=>n⟩
theorem keys113:Go.Proofs.SlLaysZ.n10 Tryd.prog qG:={
 mixed:=by kernel_rfl
 f10:=⟨Tryd.f113.name,by decide,Tryd.func113.trans (congrArg some (by kernel_rfl))⟩
 t0:=Tryd.underlying0
 a0:=Tryd.isAgg0
 z0:=Tryd.sizeOf0
 v0:=Tryd.zeroValue0
 t4:=Tryd.underlying4
 a4:=Tryd.isAgg4
 z4:=Tryd.sizeOf4
 v4:=Tryd.zeroValue4
 t23:=Tryd.underlying102
 a23:=Tryd.isAgg102
 z23:=Tryd.sizeOf102
 v23:=Tryd.zeroValue102
 t26:=Tryd.underlying9
 a26:=Tryd.isAgg9
 z26:=Tryd.sizeOf9
 v26:=Tryd.zeroValue9
 t33:=Tryd.underlying226
 a33:=Tryd.isAgg226
 z33:=Tryd.sizeOf226
 v33:=Tryd.zeroValue226}
def qF:Go.Shelf.Ren:=⟨fun|10=>115|n=>n,fun|33=>226|23=>101|0=>0|4=>4|26=>9|3=>174|n=>n,fun|n=>n⟩
theorem keys115:Go.Proofs.SlLaysZ.n10 Tryd.prog qF:={
 mixed:=by kernel_rfl
 f10:=⟨Tryd.f115.name,by decide,Tryd.func115.trans (congrArg some (by kernel_rfl))⟩
 t0:=Tryd.underlying0
 a0:=Tryd.isAgg0
 z0:=Tryd.sizeOf0
 v0:=Tryd.zeroValue0
 t4:=Tryd.underlying4
 a4:=Tryd.isAgg4
 z4:=Tryd.sizeOf4
 v4:=Tryd.zeroValue4
 t23:=Tryd.underlying101
 a23:=Tryd.isAgg101
 z23:=Tryd.sizeOf101
 v23:=Tryd.zeroValue101
 t26:=Tryd.underlying9
 a26:=Tryd.isAgg9
 z26:=Tryd.sizeOf9
 v26:=Tryd.zeroValue9
 t33:=Tryd.underlying226
 a33:=Tryd.isAgg226
 z33:=Tryd.sizeOf226
 v33:=Tryd.zeroValue226}
def gx:Go.Shelf.Ren:=⟨fun|6=>87|8=>111|9=>112|11=>126|13=>128|12=>127|23=>138|24=>139|14=>129|15=>130|16=>131|17=>132|18=>133|19=>134|20=>135|21=>136|22=>137|25=>140|26=>141|27=>142|28=>143|29=>144|30=>145|31=>146|n=>n,fun|26=>9|28=>182|24=>30|0=>0|3=>3|37=>240|48=>191|50=>194|4=>4|40=>243|39=>242|45=>172|5=>5|9=>9|51=>251|55=>255|57=>257|58=>258|33=>226|n=>n,fun|n=>n⟩
theorem A5:Go.Proofs.SlLaysZ.n6 Tryd.prog gx:={
 mixed:=by kernel_rfl
 f6:=⟨Tryd.f87.name,by decide,Tryd.func87.trans (congrArg some (by kernel_rfl))⟩
 f8:=⟨Tryd.f111.name,by decide,Tryd.func111.trans (congrArg some (by kernel_rfl))⟩
 f11:=⟨Tryd.f126.name,by decide,Tryd.func126.trans (congrArg some (by kernel_rfl))⟩
 t0:=Tryd.underlying0
 a0:=Tryd.isAgg0
 z0:=Tryd.sizeOf0
 v0:=Tryd.zeroValue0
 t24:=Tryd.underlying30
 a24:=Tryd.isAgg30
 z24:=Tryd.sizeOf30
 v24:=Tryd.zeroValue30
 t26:=Tryd.underlying9
 a26:=Tryd.isAgg9
 z26:=Tryd.sizeOf9
 v26:=Tryd.zeroValue9
 t28:=Tryd.underlying182
 a28:=Tryd.isAgg182
 z28:=Tryd.sizeOf182
 v28:=Tryd.zeroValue182
 i26:=by kernel_rfl}
def A6:Go.Shelf.Ren:=⟨fun|6=>112|8=>128|9=>127|19=>138|20=>139|21=>129|22=>130|23=>131|24=>132|25=>133|26=>134|27=>135|28=>136|29=>137|36=>140|31=>141|32=>142|37=>143|38=>144|39=>145|41=>146|n=>n,fun|27=>30|29=>9|3=>3|32=>240|26=>30|0=>0|44=>191|46=>194|4=>4|36=>243|35=>242|41=>172|5=>5|9=>9|53=>251|57=>255|63=>257|64=>258|n=>n,fun|n=>n⟩
theorem D6:Go.Proofs.SlLaysM.n6 Tryd.prog A6:={
 mixed:=by kernel_rfl
 f6:=⟨Tryd.f112.name,by decide,Tryd.func112.trans (congrArg some (by kernel_rfl))⟩
 f8:=Tryd.func128.trans (congrArg some (by kernel_rfl))
 f9:=⟨Tryd.f127.name,by decide,Tryd.func127.trans (congrArg some (by kernel_rfl))⟩
 f19:=Tryd.func138.trans (congrArg some (by kernel_rfl))
 f20:=Tryd.func139.trans (congrArg some (by kernel_rfl))
 f21:=⟨Tryd.f129.name,by decide,Tryd.func129.trans (congrArg some (by kernel_rfl))⟩
 f22:=⟨Tryd.f130.name,by decide,Tryd.func130.trans (congrArg some (by kernel_rfl))⟩
 f23:=⟨Tryd.f131.name,by decide,Tryd.func131.trans (congrArg some (by kernel_rfl))⟩
 f24:=⟨Tryd.f132.name,by decide,Tryd.func132.trans (congrArg some (by kernel_rfl))⟩
 f25:=⟨Tryd.f133.name,by decide,Tryd.func133.trans (congrArg some (by kernel_rfl))⟩
 f26:=⟨Tryd.f134.name,by decide,Tryd.func134.trans (congrArg some (by kernel_rfl))⟩
 f27:=⟨Tryd.f135.name,by decide,Tryd.func135.trans (congrArg some (by kernel_rfl))⟩
 f28:=⟨Tryd.f136.name,by decide,Tryd.func136.trans (congrArg some (by kernel_rfl))⟩
 f29:=⟨Tryd.f137.name,by decide,Tryd.func137.trans (congrArg some (by kernel_rfl))⟩
 f31:=Tryd.func141.trans (congrArg some (by kernel_rfl))
 f32:=Tryd.func142.trans (congrArg some (by kernel_rfl))
 f36:=⟨Tryd.f140.name,by decide,Tryd.func140.trans (congrArg some (by kernel_rfl))⟩
 f37:=⟨Tryd.f143.name,by decide,Tryd.func143.trans (congrArg some (by kernel_rfl))⟩
 f38:=⟨Tryd.f144.name,by decide,Tryd.func144.trans (congrArg some (by kernel_rfl))⟩
 f39:=⟨Tryd.f145.name,by decide,Tryd.func145.trans (congrArg some (by kernel_rfl))⟩
 f41:=⟨Tryd.f146.name,by decide,Tryd.func146.trans (congrArg some (by kernel_rfl))⟩
 t0:=Tryd.underlying0
 a0:=Tryd.isAgg0
 z0:=Tryd.sizeOf0
 v0:=Tryd.zeroValue0
 t3:=Tryd.underlying3
 a3:=Tryd.isAgg3
 z3:=Tryd.sizeOf3
 v3:=Tryd.zeroValue3
 t4:=Tryd.underlying4
 a4:=Tryd.isAgg4
 z4:=Tryd.sizeOf4
 v4:=Tryd.zeroValue4
 t5:=Tryd.underlying5
 a5:=Tryd.isAgg5
 z5:=Tryd.sizeOf5
 v5:=Tryd.zeroValue5
 t9:=Tryd.underlying9
 a9:=Tryd.isAgg9
 z9:=Tryd.sizeOf9
 v9:=Tryd.zeroValue9
 t26:=Tryd.underlying30
 a26:=Tryd.isAgg30
 z26:=Tryd.sizeOf30
 v26:=Tryd.zeroValue30
 t27:=Tryd.underlying30
 a27:=Tryd.isAgg30
 z27:=Tryd.sizeOf30
 v27:=Tryd.zeroValue30
 t29:=Tryd.underlying9
 a29:=Tryd.isAgg9
 z29:=Tryd.sizeOf9
 v29:=Tryd.zeroValue9
 t32:=Tryd.underlying240
 a32:=Tryd.isAgg240
 z32:=Tryd.sizeOf240
 v32:=Tryd.zeroValue240
 t35:=Tryd.underlying242
 a35:=Tryd.isAgg242
 z35:=Tryd.sizeOf242
 v35:=Tryd.zeroValue242
 t36:=Tryd.underlying243
 a36:=Tryd.isAgg243
 z36:=Tryd.sizeOf243
 v36:=Tryd.zeroValue243
 t41:=Tryd.underlying172
 a41:=Tryd.isAgg172
 z41:=Tryd.sizeOf172
 v41:=Tryd.zeroValue172
 t44:=Tryd.underlying191
 a44:=Tryd.isAgg191
 z44:=Tryd.sizeOf191
 v44:=Tryd.zeroValue191
 t46:=Tryd.underlying194
 a46:=Tryd.isAgg194
 z46:=Tryd.sizeOf194
 v46:=Tryd.zeroValue194
 t53:=Tryd.underlying251
 a53:=Tryd.isAgg251
 z53:=Tryd.sizeOf251
 v53:=Tryd.zeroValue251
 t57:=Tryd.underlying255
 a57:=Tryd.isAgg255
 z57:=Tryd.sizeOf255
 v57:=Tryd.zeroValue255
 t63:=Tryd.underlying257
 a63:=Tryd.isAgg257
 z63:=Tryd.sizeOf257
 v63:=Tryd.zeroValue257
 t64:=Tryd.underlying258
 a64:=Tryd.isAgg258
 z64:=Tryd.sizeOf258
 v64:=Tryd.zeroValue258}
theorem sk_ok:∀x∈sk,zH Tryd.prog x.1 x.2.1 x.2.2:=by
 intro x hx;simp only [sk,aW,List.not_mem_nil,or_false] at hx
 rcases hx with rfl|rfl
 ·have h:zH Tryd.prog (gx.f 6) (qG.f 10) (gx.t 26):=BX A5 keys113 D6 (by kernel_rfl);have e:(gx.f 6,qG.f 10,gx.t 26)=(87,113,9):=by kernel_rfl
  have e1:=congrArg (·.1) e;have e2:=congrArg (·.2.1) e;have e3:=congrArg (·.2.2) e;simp only at e1 e2 e3;rw [e1,e2,e3] at h;exact h
 ·have h:zH Tryd.prog (gx.f 6) (qF.f 10) (gx.t 26):=BX A5 keys115 D6 (by kernel_rfl);have e:(gx.f 6,qF.f 10,gx.t 26)=(87,115,9):=by kernel_rfl
  have e1:=congrArg (·.1) e;have e2:=congrArg (·.2.1) e;have e3:=congrArg (·.2.2) e;simp only at e1 e2 e3;rw [e1,e2,e3] at h;exact h
end Go.Proofs.OP
