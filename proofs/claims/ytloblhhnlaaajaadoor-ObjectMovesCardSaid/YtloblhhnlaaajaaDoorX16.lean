/- What walks of this seat know of its types and functions. -/
import Derived.Test.YtloblhhnlaaajaaDoorX12
import Derived.Test.YtloblhhnlaaajaaDoorProg
import Derived.KernelRfl
import Derived.Test.YtloblhhnlaaajaaDoorX15
import Derived.Test.YtloblhhnlaaajaaDoorX14
import Derived.Test.YtloblhhnlaaajaaDoorX13
set_option linter.unusedVariables false
set_option linter.unusedSimpArgs false
set_option linter.defProp false
namespace Go.Proofs.OP
open Go Go.Ev
open Go.Proofs

def es : List Nat := [35, 41, 43, 95, 97, 199]
def fl : List Nat := List.range 9 ++ List.range' 10 77 ++ List.range' 88 84
def sk : List (Nat × Nat × Nat) := [(87, 113, 9), (87, 115, 9)]
@[irreducible] noncomputable def E (g : T (List V)) : Env := envOf4 Tryd.prog (List.range 275) fl [] [9] es sk g
variable {g : T (List V)}
theorem E_tys : (E g).tys = tysOf Tryd.prog (List.range 275) := by unfold E envOf4; dsimp only
theorem E_fns : (E g).fns = fnsOf Tryd.prog fl := by unfold E envOf4; dsimp only
theorem E_87 : (E g).fns.get 87 = none := by rw [E_fns]; exact fn_out (by kernel_rfl)
theorem E_9 : (E g).fns.get 9 = none := by rw [E_fns]; exact fn_out (by kernel_rfl)
theorem awake_ok {h : H} {Q : V → H → Prop} (k : Q (.bool true) { t := .lf, next := h.next }) : WF (E g) 9 [] h Q :=
 WF.done E_9 (by unfold E envOf4; rfl) (by unfold E envOf4; exact T.get_lf 9) (by unfold E envOf4; rfl) k
theorem ty2 : (E g).tys.get 2 = some { desc := .int .i64, size := 1, bytes := 8, zero := [.int .i64 0], zv := .int .i64 0, cmp := true } := by rw [E_tys]; exact ty_at (by kernel_rfl) rfl
theorem ty3 : (E g).tys.get 3 = some { desc := .int .i64, size := 1, bytes := 8, zero := [.int .i64 0], zv := .int .i64 0, cmp := true } := by rw [E_tys]; exact ty_at (by kernel_rfl) rfl
theorem ty4 : (E g).tys.get 4 = some { desc := .bool, size := 1, bytes := 1, zero := [.bool false], zv := .bool false, cmp := true } := by rw [E_tys]; exact ty_at (by kernel_rfl) rfl
theorem ty5 : (E g).tys.get 5 = some { desc := .int .u8, size := 1, bytes := 1, zero := [.int .u8 0], zv := .int .u8 0, cmp := true } := by rw [E_tys]; exact ty_at (by kernel_rfl) rfl
theorem ty9 : (E g).tys.get 9 = some { desc := .string, size := 1, bytes := 16, zero := [.str []], zv := .str [], cmp := true } := by rw [E_tys]; exact ty_at (by kernel_rfl) rfl
theorem ty23 : (E g).tys.get 23 = some { desc := .int .u16, size := 1, bytes := 2, zero := [.int .u16 0], zv := .int .u16 0, cmp := true } := by rw [E_tys]; exact ty_at (by kernel_rfl) rfl
theorem ty27 : (E g).tys.get 27 = some { desc := .slice 5, size := 1, bytes := 24, zero := [.nils], zv := .nils, cmp := false } := by rw [E_tys]; exact ty_at (by kernel_rfl) rfl
theorem ty30 : (E g).tys.get 30 = some { desc := .slice 9, size := 1, bytes := 24, zero := [.nils], zv := .nils, cmp := false } := by rw [E_tys]; exact ty_at (by kernel_rfl) rfl
theorem ty33 : (E g).tys.get 33 = some { desc := .int .i64, size := 1, bytes := 8, zero := [.int .i64 0], zv := .int .i64 0, cmp := true } := by rw [E_tys]; exact ty_at (by kernel_rfl) rfl
theorem ty67 : (E g).tys.get 67 = some { desc := .slice 132, size := 1, bytes := 24, zero := [.nils], zv := .nils, cmp := false } := by rw [E_tys]; exact ty_at (by kernel_rfl) rfl
theorem ty68 : (E g).tys.get 68 = some { desc := .slice 127, size := 1, bytes := 24, zero := [.nils], zv := .nils, cmp := false } := by rw [E_tys]; exact ty_at (by kernel_rfl) rfl
theorem ty70 : (E g).tys.get 70 = some { desc := .struct #[⟨ "Name", 9, 0, false, "", "", 0⟩, ⟨ "Code", 27, 1, false, "", "", 16⟩, ⟨ "Data", 27, 2, false, "", "", 40⟩, ⟨ "Symbols", 67, 3, false, "", "", 64⟩, ⟨ "Relocs", 68, 4, false, "", "", 88⟩, ⟨ "Needs", 30, 5, false, "", "", 112⟩, ⟨ "Entry", 9, 6, false, "", "", 136⟩], size := 7, bytes := 152, zero := [.str [], .nils, .nils, .nils, .nils, .nils, .str []], zv := .agg [.str [], .nils, .nils, .nils, .nils, .nils, .str []], cmp := false } := by rw [E_tys]; exact ty_at (by kernel_rfl) rfl
theorem fa70_0 {b o : Nat} : fieldAddrV (E g) 70 (.ptr b o) 0 = some (.ptr b (o + 0)) := fieldAddr_of (fd := ⟨ "Name", 9, 0, false, "", "", 0⟩) ty70 rfl rfl ty9 (by decide)
theorem fa70_1 {b o : Nat} : fieldAddrV (E g) 70 (.ptr b o) 1 = some (.ptr b (o + 1)) := fieldAddr_of (fd := ⟨ "Code", 27, 1, false, "", "", 16⟩) ty70 rfl rfl ty27 (by decide)
theorem fa70_2 {b o : Nat} : fieldAddrV (E g) 70 (.ptr b o) 2 = some (.ptr b (o + 2)) := fieldAddr_of (fd := ⟨ "Data", 27, 2, false, "", "", 40⟩) ty70 rfl rfl ty27 (by decide)
theorem fa70_3 {b o : Nat} : fieldAddrV (E g) 70 (.ptr b o) 3 = some (.ptr b (o + 3)) := fieldAddr_of (fd := ⟨ "Symbols", 67, 3, false, "", "", 64⟩) ty70 rfl rfl ty67 (by decide)
theorem fa70_4 {b o : Nat} : fieldAddrV (E g) 70 (.ptr b o) 4 = some (.ptr b (o + 4)) := fieldAddr_of (fd := ⟨ "Relocs", 68, 4, false, "", "", 88⟩) ty70 rfl rfl ty68 (by decide)
theorem fa70_5 {b o : Nat} : fieldAddrV (E g) 70 (.ptr b o) 5 = some (.ptr b (o + 5)) := fieldAddr_of (fd := ⟨ "Needs", 30, 5, false, "", "", 112⟩) ty70 rfl rfl ty30 (by decide)
theorem fa70_6 {b o : Nat} : fieldAddrV (E g) 70 (.ptr b o) 6 = some (.ptr b (o + 6)) := fieldAddr_of (fd := ⟨ "Entry", 9, 6, false, "", "", 136⟩) ty70 rfl rfl ty9 (by decide)
theorem ty74 : (E g).tys.get 74 = some { desc := .slice 95, size := 1, bytes := 24, zero := [.nils], zv := .nils, cmp := false } := by rw [E_tys]; exact ty_at (by kernel_rfl) rfl
theorem ty75 : (E g).tys.get 75 = some { desc := .slice 97, size := 1, bytes := 24, zero := [.nils], zv := .nils, cmp := false } := by rw [E_tys]; exact ty_at (by kernel_rfl) rfl
theorem ty77 : (E g).tys.get 77 = some { desc := .struct #[⟨ "Name", 9, 0, false, "", "", 0⟩, ⟨ "Code", 27, 1, false, "", "", 16⟩, ⟨ "Data", 27, 2, false, "", "", 40⟩, ⟨ "Symbols", 74, 3, false, "", "", 64⟩, ⟨ "Relocs", 75, 4, false, "", "", 88⟩, ⟨ "Needs", 30, 5, false, "", "", 112⟩, ⟨ "Entry", 9, 6, false, "", "", 136⟩], size := 7, bytes := 152, zero := [.str [], .nils, .nils, .nils, .nils, .nils, .str []], zv := .agg [.str [], .nils, .nils, .nils, .nils, .nils, .str []], cmp := false } := by rw [E_tys]; exact ty_at (by kernel_rfl) rfl
theorem fa77_0 {b o : Nat} : fieldAddrV (E g) 77 (.ptr b o) 0 = some (.ptr b (o + 0)) := fieldAddr_of (fd := ⟨ "Name", 9, 0, false, "", "", 0⟩) ty77 rfl rfl ty9 (by decide)
theorem fa77_1 {b o : Nat} : fieldAddrV (E g) 77 (.ptr b o) 1 = some (.ptr b (o + 1)) := fieldAddr_of (fd := ⟨ "Code", 27, 1, false, "", "", 16⟩) ty77 rfl rfl ty27 (by decide)
theorem fa77_2 {b o : Nat} : fieldAddrV (E g) 77 (.ptr b o) 2 = some (.ptr b (o + 2)) := fieldAddr_of (fd := ⟨ "Data", 27, 2, false, "", "", 40⟩) ty77 rfl rfl ty27 (by decide)
theorem fa77_3 {b o : Nat} : fieldAddrV (E g) 77 (.ptr b o) 3 = some (.ptr b (o + 3)) := fieldAddr_of (fd := ⟨ "Symbols", 74, 3, false, "", "", 64⟩) ty77 rfl rfl ty74 (by decide)
theorem fa77_4 {b o : Nat} : fieldAddrV (E g) 77 (.ptr b o) 4 = some (.ptr b (o + 4)) := fieldAddr_of (fd := ⟨ "Relocs", 75, 4, false, "", "", 88⟩) ty77 rfl rfl ty75 (by decide)
theorem fa77_5 {b o : Nat} : fieldAddrV (E g) 77 (.ptr b o) 5 = some (.ptr b (o + 5)) := fieldAddr_of (fd := ⟨ "Needs", 30, 5, false, "", "", 112⟩) ty77 rfl rfl ty30 (by decide)
theorem fa77_6 {b o : Nat} : fieldAddrV (E g) 77 (.ptr b o) 6 = some (.ptr b (o + 6)) := fieldAddr_of (fd := ⟨ "Entry", 9, 6, false, "", "", 136⟩) ty77 rfl rfl ty9 (by decide)
theorem ty95 : (E g).tys.get 95 = some { desc := .struct #[⟨ "Name", 9, 0, false, "", "", 0⟩, ⟨ "Section", 3, 1, false, "", "", 16⟩, ⟨ "Offset", 2, 2, false, "", "", 24⟩, ⟨ "Global", 4, 3, false, "", "", 32⟩, ⟨ "Weak", 4, 4, false, "", "", 33⟩], size := 5, bytes := 40, zero := [.str [], .int .i64 0, .int .i64 0, .bool false, .bool false], zv := .agg [.str [], .int .i64 0, .int .i64 0, .bool false, .bool false], cmp := true } := by rw [E_tys]; exact ty_at (by kernel_rfl) rfl
theorem fa95_0 {b o : Nat} : fieldAddrV (E g) 95 (.ptr b o) 0 = some (.ptr b (o + 0)) := fieldAddr_of (fd := ⟨ "Name", 9, 0, false, "", "", 0⟩) ty95 rfl rfl ty9 (by decide)
theorem fa95_1 {b o : Nat} : fieldAddrV (E g) 95 (.ptr b o) 1 = some (.ptr b (o + 1)) := fieldAddr_of (fd := ⟨ "Section", 3, 1, false, "", "", 16⟩) ty95 rfl rfl ty3 (by decide)
theorem fg95_1 {b o : Nat} : fieldAddrV (E g) 95 (.gp b o) 1 = some (.gp b (o + 1)) := fieldAddr_gp (fd := ⟨ "Section", 3, 1, false, "", "", 16⟩) ty95 rfl rfl ty3 (by decide)
theorem fa95_2 {b o : Nat} : fieldAddrV (E g) 95 (.ptr b o) 2 = some (.ptr b (o + 2)) := fieldAddr_of (fd := ⟨ "Offset", 2, 2, false, "", "", 24⟩) ty95 rfl rfl ty2 (by decide)
theorem fa95_3 {b o : Nat} : fieldAddrV (E g) 95 (.ptr b o) 3 = some (.ptr b (o + 3)) := fieldAddr_of (fd := ⟨ "Global", 4, 3, false, "", "", 32⟩) ty95 rfl rfl ty4 (by decide)
theorem fg95_3 {b o : Nat} : fieldAddrV (E g) 95 (.gp b o) 3 = some (.gp b (o + 3)) := fieldAddr_gp (fd := ⟨ "Global", 4, 3, false, "", "", 32⟩) ty95 rfl rfl ty4 (by decide)
theorem fa95_4 {b o : Nat} : fieldAddrV (E g) 95 (.ptr b o) 4 = some (.ptr b (o + 4)) := fieldAddr_of (fd := ⟨ "Weak", 4, 4, false, "", "", 33⟩) ty95 rfl rfl ty4 (by decide)
theorem ty97 : (E g).tys.get 97 = some { desc := .struct #[⟨ "Section", 3, 0, false, "", "", 0⟩, ⟨ "Offset", 2, 1, false, "", "", 8⟩, ⟨ "Kind", 3, 2, false, "", "", 16⟩, ⟨ "Symbol", 9, 3, false, "", "", 24⟩, ⟨ "Addend", 2, 4, false, "", "", 40⟩], size := 5, bytes := 48, zero := [.int .i64 0, .int .i64 0, .int .i64 0, .str [], .int .i64 0], zv := .agg [.int .i64 0, .int .i64 0, .int .i64 0, .str [], .int .i64 0], cmp := true } := by rw [E_tys]; exact ty_at (by kernel_rfl) rfl
theorem fa97_0 {b o : Nat} : fieldAddrV (E g) 97 (.ptr b o) 0 = some (.ptr b (o + 0)) := fieldAddr_of (fd := ⟨ "Section", 3, 0, false, "", "", 0⟩) ty97 rfl rfl ty3 (by decide)
theorem fa97_1 {b o : Nat} : fieldAddrV (E g) 97 (.ptr b o) 1 = some (.ptr b (o + 1)) := fieldAddr_of (fd := ⟨ "Offset", 2, 1, false, "", "", 8⟩) ty97 rfl rfl ty2 (by decide)
theorem fa97_2 {b o : Nat} : fieldAddrV (E g) 97 (.ptr b o) 2 = some (.ptr b (o + 2)) := fieldAddr_of (fd := ⟨ "Kind", 3, 2, false, "", "", 16⟩) ty97 rfl rfl ty3 (by decide)
theorem fa97_3 {b o : Nat} : fieldAddrV (E g) 97 (.ptr b o) 3 = some (.ptr b (o + 3)) := fieldAddr_of (fd := ⟨ "Symbol", 9, 3, false, "", "", 24⟩) ty97 rfl rfl ty9 (by decide)
theorem fa97_4 {b o : Nat} : fieldAddrV (E g) 97 (.ptr b o) 4 = some (.ptr b (o + 4)) := fieldAddr_of (fd := ⟨ "Addend", 2, 4, false, "", "", 40⟩) ty97 rfl rfl ty2 (by decide)
theorem ty127 : (E g).tys.get 127 = some { desc := .struct #[⟨ "Section", 3, 0, false, "", "", 0⟩, ⟨ "Offset", 2, 1, false, "", "", 8⟩, ⟨ "Kind", 3, 2, false, "", "", 16⟩, ⟨ "Symbol", 9, 3, false, "", "", 24⟩, ⟨ "Addend", 2, 4, false, "", "", 40⟩], size := 5, bytes := 48, zero := [.int .i64 0, .int .i64 0, .int .i64 0, .str [], .int .i64 0], zv := .agg [.int .i64 0, .int .i64 0, .int .i64 0, .str [], .int .i64 0], cmp := true } := by rw [E_tys]; exact ty_at (by kernel_rfl) rfl
theorem fa127_3 {b o : Nat} : fieldAddrV (E g) 127 (.ptr b o) 3 = some (.ptr b (o + 3)) := fieldAddr_of (fd := ⟨ "Symbol", 9, 3, false, "", "", 24⟩) ty127 rfl rfl ty9 (by decide)
theorem ty132 : (E g).tys.get 132 = some { desc := .struct #[⟨ "Name", 9, 0, false, "", "", 0⟩, ⟨ "Section", 3, 1, false, "", "", 16⟩, ⟨ "Offset", 2, 2, false, "", "", 24⟩, ⟨ "Global", 4, 3, false, "", "", 32⟩, ⟨ "Weak", 4, 4, false, "", "", 33⟩], size := 5, bytes := 40, zero := [.str [], .int .i64 0, .int .i64 0, .bool false, .bool false], zv := .agg [.str [], .int .i64 0, .int .i64 0, .bool false, .bool false], cmp := true } := by rw [E_tys]; exact ty_at (by kernel_rfl) rfl
theorem fa132_0 {b o : Nat} : fieldAddrV (E g) 132 (.ptr b o) 0 = some (.ptr b (o + 0)) := fieldAddr_of (fd := ⟨ "Name", 9, 0, false, "", "", 0⟩) ty132 rfl rfl ty9 (by decide)
theorem ty168 : (E g).tys.get 168 = some { desc := .map 9 3, size := 1, bytes := 8, zero := [.nilm], zv := .nilm, cmp := false } := by rw [E_tys]; exact ty_at (by kernel_rfl) rfl
theorem ty188 : (E g).tys.get 188 = some { desc := .struct #[], size := 0, bytes := 0, zero := [], zv := .agg [], cmp := true } := by rw [E_tys]; exact ty_at (by kernel_rfl) rfl
theorem ty191 : (E g).tys.get 191 = some { desc := .int .u32, size := 1, bytes := 4, zero := [.int .u32 0], zv := .int .u32 0, cmp := true } := by rw [E_tys]; exact ty_at (by kernel_rfl) rfl
theorem ty194 : (E g).tys.get 194 = some { desc := .int .u64, size := 1, bytes := 8, zero := [.int .u64 0], zv := .int .u64 0, cmp := true } := by rw [E_tys]; exact ty_at (by kernel_rfl) rfl
theorem ty199 : (E g).tys.get 199 = some { desc := .array 4 5, size := 4, bytes := 4, zero := [.int .u8 0, .int .u8 0, .int .u8 0, .int .u8 0], zv := .agg [.int .u8 0, .int .u8 0, .int .u8 0, .int .u8 0], cmp := true } := by rw [E_tys]; exact ty_at (by kernel_rfl) rfl
theorem ty221 : (E g).tys.get 221 = some { desc := .array 2 3, size := 2, bytes := 16, zero := [.int .i64 0, .int .i64 0], zv := .agg [.int .i64 0, .int .i64 0], cmp := true } := by rw [E_tys]; exact ty_at (by kernel_rfl) rfl
theorem ty222 : (E g).tys.get 222 = some { desc := .slice 221, size := 1, bytes := 24, zero := [.nils], zv := .nils, cmp := false } := by rw [E_tys]; exact ty_at (by kernel_rfl) rfl
theorem fn3 : (E g).fns.get 3 = some { nt := 214, body := Tryd.f3.body.get!, res := [.tmp 4] } := by rw [E_fns]; exact fn_in (FI.of_mk Tryd.func3 (show Tryd.f3.body = some Tryd.f3.body.get! by kernel_rfl) (by kernel_rfl) (show Tryd.f3.ntmps = 214 by kernel_rfl) (show Tryd.f3.results.toList = [.tmp 4] by kernel_rfl)) rfl
theorem fn22 : (E g).fns.get 22 = some { nt := 84, body := Tryd.f22.body.get!, res := [.tmp 2] } := by rw [E_fns]; exact fn_in (FI.of_mk Tryd.func22 (show Tryd.f22.body = some Tryd.f22.body.get! by kernel_rfl) (by kernel_rfl) (show Tryd.f22.ntmps = 84 by kernel_rfl) (show Tryd.f22.results.toList = [.tmp 2] by kernel_rfl)) rfl
theorem fn25 : (E g).fns.get 25 = some { nt := 54, body := Tryd.f25.body.get!, res := [.cell 2 77] } := by rw [E_fns]; exact fn_in (FI.of_mk Tryd.func25 (show Tryd.f25.body = some Tryd.f25.body.get! by kernel_rfl) (by kernel_rfl) (show Tryd.f25.ntmps = 54 by kernel_rfl) (show Tryd.f25.results.toList = [.cell 2 77] by kernel_rfl)) rfl
theorem fn31 : (E g).fns.get 31 = some { nt := 123, body := Tryd.f31.body.get!, res := [.tmp 2] } := by rw [E_fns]; exact fn_in (FI.of_mk Tryd.func31 (show Tryd.f31.body = some Tryd.f31.body.get! by kernel_rfl) (by kernel_rfl) (show Tryd.f31.ntmps = 123 by kernel_rfl) (show Tryd.f31.results.toList = [.tmp 2] by kernel_rfl)) rfl
theorem fn79 : (E g).fns.get 79 = some { nt := 47, body := Tryd.f79.body.get!, res := [.tmp 2] } := by rw [E_fns]; exact fn_in (FI.of_mk Tryd.func79 (show Tryd.f79.body = some Tryd.f79.body.get! by kernel_rfl) (by kernel_rfl) (show Tryd.f79.ntmps = 47 by kernel_rfl) (show Tryd.f79.results.toList = [.tmp 2] by kernel_rfl)) rfl
theorem fn80 : (E g).fns.get 80 = some { nt := 16, body := Tryd.f80.body.get!, res := [.tmp 4] } := by rw [E_fns]; exact fn_in (FI.of_mk Tryd.func80 (show Tryd.f80.body = some Tryd.f80.body.get! by kernel_rfl) (by kernel_rfl) (show Tryd.f80.ntmps = 16 by kernel_rfl) (show Tryd.f80.results.toList = [.tmp 4] by kernel_rfl)) rfl
theorem fn81 : (E g).fns.get 81 = some { nt := 61, body := Tryd.f81.body.get!, res := [.tmp 6] } := by rw [E_fns]; exact fn_in (FI.of_mk Tryd.func81 (show Tryd.f81.body = some Tryd.f81.body.get! by kernel_rfl) (by kernel_rfl) (show Tryd.f81.ntmps = 61 by kernel_rfl) (show Tryd.f81.results.toList = [.tmp 6] by kernel_rfl)) rfl
theorem fn82 : (E g).fns.get 82 = some { nt := 79, body := Tryd.f82.body.get!, res := [.tmp 6] } := by rw [E_fns]; exact fn_in (FI.of_mk Tryd.func82 (show Tryd.f82.body = some Tryd.f82.body.get! by kernel_rfl) (by kernel_rfl) (show Tryd.f82.ntmps = 79 by kernel_rfl) (show Tryd.f82.results.toList = [.tmp 6] by kernel_rfl)) rfl
theorem fn83 : (E g).fns.get 83 = some { nt := 9, body := Tryd.f83.body.get!, res := [.tmp 4] } := by rw [E_fns]; exact fn_in (FI.of_mk Tryd.func83 (show Tryd.f83.body = some Tryd.f83.body.get! by kernel_rfl) (by kernel_rfl) (show Tryd.f83.ntmps = 9 by kernel_rfl) (show Tryd.f83.results.toList = [.tmp 4] by kernel_rfl)) rfl
theorem fn86 : (E g).fns.get 86 = some { nt := 20, body := Tryd.f86.body.get!, res := [.tmp 4] } := by rw [E_fns]; exact fn_in (FI.of_mk Tryd.func86 (show Tryd.f86.body = some Tryd.f86.body.get! by kernel_rfl) (by kernel_rfl) (show Tryd.f86.ntmps = 20 by kernel_rfl) (show Tryd.f86.results.toList = [.tmp 4] by kernel_rfl)) rfl
theorem fn90 : (E g).fns.get 90 = some { nt := 3, body := Tryd.f90.body.get!, res := [.cell 0 188] } := by rw [E_fns]; exact fn_in (FI.of_mk Tryd.func90 (show Tryd.f90.body = some Tryd.f90.body.get! by kernel_rfl) (by kernel_rfl) (show Tryd.f90.ntmps = 3 by kernel_rfl) (show Tryd.f90.results.toList = [.cell 0 188] by kernel_rfl)) rfl
theorem fn103 : (E g).fns.get 103 = some { nt := 19, body := Tryd.f103.body.get!, res := [.tmp 4] } := by rw [E_fns]; exact fn_in (FI.of_mk Tryd.func103 (show Tryd.f103.body = some Tryd.f103.body.get! by kernel_rfl) (by kernel_rfl) (show Tryd.f103.ntmps = 19 by kernel_rfl) (show Tryd.f103.results.toList = [.tmp 4] by kernel_rfl)) rfl
theorem fn109 : (E g).fns.get 109 = some { nt := 9, body := Tryd.f109.body.get!, res := [.tmp 4] } := by rw [E_fns]; exact fn_in (FI.of_mk Tryd.func109 (show Tryd.f109.body = some Tryd.f109.body.get! by kernel_rfl) (by kernel_rfl) (show Tryd.f109.ntmps = 9 by kernel_rfl) (show Tryd.f109.results.toList = [.tmp 4] by kernel_rfl)) rfl
theorem fn110 : (E g).fns.get 110 = some { nt := 25, body := Tryd.f110.body.get!, res := [.tmp 3] } := by rw [E_fns]; exact fn_in (FI.of_mk Tryd.func110 (show Tryd.f110.body = some Tryd.f110.body.get! by kernel_rfl) (by kernel_rfl) (show Tryd.f110.ntmps = 25 by kernel_rfl) (show Tryd.f110.results.toList = [.tmp 3] by kernel_rfl)) rfl
theorem fn114 : (E g).fns.get 114 = some { nt := 19, body := Tryd.f114.body.get!, res := [] } := by rw [E_fns]; exact fn_in (FI.of_mk Tryd.func114 (show Tryd.f114.body = some Tryd.f114.body.get! by kernel_rfl) (by kernel_rfl) (show Tryd.f114.ntmps = 19 by kernel_rfl) (show Tryd.f114.results.toList = [] by kernel_rfl)) rfl
theorem fn125 : (E g).fns.get 125 = some { nt := 19, body := Tryd.f125.body.get!, res := [.tmp 4] } := by rw [E_fns]; exact fn_in (FI.of_mk Tryd.func125 (show Tryd.f125.body = some Tryd.f125.body.get! by kernel_rfl) (by kernel_rfl) (show Tryd.f125.ntmps = 19 by kernel_rfl) (show Tryd.f125.results.toList = [.tmp 4] by kernel_rfl)) rfl
end Go.Proofs.OP

set_option linter.unusedSimpArgs false
namespace Go.Proofs.OP
open Go Go.Ev
open Go.Proofs
open Nat (reduceLT reduceEqDiff)
variable {g : T (List V)}

def u8 (c : UInt8) : V := .int .u8 c.toNat
abbrev Bs (g : T (List V)) (h : H) (s : V) (xs : List UInt8) : Prop := Sl (E g) h 1 s xs.length (xs.map u8)

theorem Bs.at {h : H} {s : V} {xs : List UInt8} (a : Bs g h s xs) {k : Nat} (hk : k < xs.length) :
  ∃ p, indexAddrV (E g) 27 s (.int .i64 k) = some p ∧ loadP (E g) h 5 p = some (u8 xs[k]) := by
 obtain ⟨p, h1, h2⟩ := Sl.place a ty27 rfl ty5 rfl (by decide) hk
 refine ⟨p, h1, ?_⟩
 rw [h2 h fun _ _ _ _ _ => rfl]
 show (xs.map u8)[k * 1]? = _
 rw [Nat.mul_one, List.getElem?_map, List.getElem?_eq_getElem hk]; rfl
theorem Bs.len {h h' : H} {s : V} {xs : List UInt8} (a : Bs g h s xs) : lenB (E g) h' 27 s = some (.int .i64 xs.length) := Sl.lenB a ty27 rfl h'

theorem fdiv_nat (a b : Nat) : Int.fdiv (a : Int) (b : Int) = ((a / b : Nat) : Int) := by
 rw [Int.fdiv_eq_ediv_of_nonneg _ (by omega)]; exact (Int.natCast_ediv a b).symm
theorem wrapu8_nat (n : Nat) : IntKind.u8.wrap (n : Int) = ((n % 256 : Nat) : Int) := by
 unfold IntKind.wrap
 simp only [IntKind.bits, IntKind.signed, Bool.false_and, Bool.false_eq_true, if_false]
 omega
theorem u8_ofNat (n : Nat) : V.int .u8 ((n % 256 : Nat) : Int) = u8 (UInt8.ofNat n) := by
 unfold u8
 rw [UInt8.toNat_ofNat']

def leB : Nat → Nat → List UInt8
 | _, 0 => []
 | n, k + 1 => UInt8.ofNat n :: leB (n / 256) k
theorem leB_length : ∀ (k n : Nat), (leB n k).length = k
 | 0, _ => rfl
 | k + 1, n => by simp [leB, leB_length k]
theorem leB_snoc : ∀ (k n : Nat), leB n (k + 1) = leB n k ++ [UInt8.ofNat (n / 256 ^ k)]
 | 0, n => by simp [leB]
 | k + 1, n => by
  rw [leB, leB_snoc k (n / 256)]
  simp only [leB, List.cons_append, Nat.div_div_eq_div_mul]
  rw [Nat.pow_succ, Nat.mul_comm]

abbrev GrewB (g : T (List V)) (h : H) (s : V) (h' : H) (s' : V) (xs : List UInt8) : Prop := Grew (E g) 5 1 h s h' s' xs.length (xs.map u8)
abbrev BufB (g : T (List V)) (h : H) (s : V) (xs : List UInt8) : Prop := Buf (E g) h 5 1 s xs.length (xs.map u8)

end Go.Proofs.OP
